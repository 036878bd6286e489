import Derived.Test.YtfhhognolpjikaaGreatLibA
/-
  Chapter 9: the scheme of a constructor.
  Chapter 9: the first error of a list of declarations, by the program.
  Chapter 9: the first error of a list of declarations, by the program: the fields.
  The law DeclareFinds.
  The law DeclareFields.
  The law EnvironSeen.
  Valid schemes: the program's and the reference's answers are one.
  Closing and mono, by the program.
  Signatures of the reference.
  The maker of programs: small parts, 2.
  The maker of programs: the scheme of a let.
  The maker of programs: does an expression have a part of a kind?
  The search's reference: canonical variables.
  The search's reference: a scheme under a substitution; the beginning of a store.
  The search's reference: the beginning of a store, new variables.
  The search's reference: the beginning of a store.
  The search's reference: an element, its new variables.
  The reference's store: kinds of resolved types; a variable becomes an arrow.
  The search's reference: an element, its arguments.
  The search's reference: an element, its resolved types.
  Matching, by the program.
  Instances, by the program.
  Instances, by the reference.
  Matching, by the reference.
  Both matchings are one.
  When a closed type is general.
  The reference's Instance; the law SchemeInstances.
  The search's reference: an element.
  The search's reference: heads.
  The search's reference: the schemes of constructors; the list of heads.
  The search's reference: the list of heads, the walk.
  The maker of raw expressions: cases; all depths.
  A tape anywhere in shared memory: the makers of types and of raw expressions.
  The law ScopeVisible.
  The maker of typed expressions: what it gives; leaves.
  The maker of typed expressions: leaves, functions, applications, annotations, held ones.
  The maker of programs: the scheme of a let is closed.
  The maker of typed expressions: lets.
  The maker of typed expressions: heads with arguments.
  The maker of typed expressions: cases.
  The maker of typed expressions: cases; all depths.
  The maker of programs: signatures.
  The maker of programs: bindings.
  The maker of programs: one binding.
  The maker of programs: the first binding; all bindings.
  The maker of programs.
  A part of an expression is replaced.
  A program is changed in one place: the walk down.
  A program is changed in one place.
  **Some**: programs, well typed or not.
  The first error of a program, by the program.
  Chapter 10's first examples.
  The law ScopeVisible: all of it.
  **The law ScopePrograms.**
  Parts of a correct program are correct where their names are visible (plain law).
  The law ScopeSound.
-/
set_option linter.unusedVariables false
set_option linter.unusedSimpArgs false
set_option maxRecDepth 100000
set_option maxHeartbeats 8000000
namespace Go.Ab.Lw
open Ev
def x7 (a b:Ty):Ty:=⟨4,[45,62],0,0,[a,b]⟩
def pE (n:Nat):List Ty:=(List.range n).map fun i:Nat=>dd i
theorem nu {n:Nat}:(pE n).length=n:=by simp [pE]
theorem FR {n:Nat}:pE (n+1)=pE n++[dd n]:=by simp [pE,List.range_succ]
def Lv (d:Dt):List AV:=[.pv (vI d.pos),.pv (.str d.name),.pv (.aD (d.params.map .str)),.pv (.aD (d.cons.map gR.pv))]
@[simp] theorem QS (d:Dt):Lv d=[.pv (vI d.pos),.pv (.str d.name),.pv (.aD (d.params.map .str)),.pv (.aD (d.cons.map gR.pv))]:=rfl
def Jt (d:Dt):Ty:=⟨4,d.name,0,0,pE d.params.length⟩
theorem PM {d:Dt} (hS:Sm d.params):∀(n i:Nat),d.params.length-i=n→i≤d.params.length →
   cl AP g221L0 ⟨[(1,.az 1 0),(2,.az 2 0),(3,.own ((pE i).map Ty.pv) 0),(4,.pv (vI i))],[(1,Lv d),(2,[.pv (vI 0),.pv (.str []),.pv (vI 0),.pv (vI 0),.own [] 1])],[],[i,0]⟩ =
     some (.exit 0,⟨[(1,.az 1 0),(2,.az 2 0),(3,.own ((pE d.params.length).map Ty.pv) 0),(4,.pv (vI d.params.length)),(9,.pv (.bool false))],[(1,Lv d),(2,[.pv (vI 0),.pv (.str []),.pv (vI 0),.pv (vI 0),.own [] 1])],[],[d.params.length,0]⟩)
 | 0,i,hn,hi=>by
   have:i=d.params.length:=by omega
   subst this
   have hl:=nu (n:=d.params.length)
   rw [g221L0e]
   simp [g221B0,hl]
 | n+1,i,hn,hi=>by
   have hi:i<d.params.length:=by omega
   unfold Sm at hS
   have hl:=nu (n:=i)
   have hl2:=nu (n:=i+1)
   have hb:(i+1)*64≤140737488355328:=by omega
   have k:=c72 (n:=i)
   have ih:=PM hS n (i+1) (by omega) (by omega)
   rw [g221L0e] at ih ⊢
   rw [FR] at ih
   simp [dd,hl] at ih k
   simp (disch:=omega) [-getElem?_pos,g221B0,hi,k,hl,hb,au]
   rw [g221L0e]
   simp [ih,hl]
theorem c221 {d:Dt} (hS:Sm d.params):(aP AP).p 221 [d.pv]=some [(Jt d).pv]:=by
 have h:=PM hS _ 0 rfl (by omega)
 have hl:=nu (n:=d.params.length)
 have k:=c62 (s:=d.name) (l:=pE d.params.length) (by unfold Sm at hS ⊢;omega)
 rw [aq (af:=g221) rfl rfl (by decide)]
 rw [g221L0e] at h
 simp [pE] at h
 simp [pE] at k
 simp [g221,g221L0e,h,k,Jt,pE]
def BG (ps:List bS) (fs:List Ty) (t:Ty):Ty:=fs.foldr (fun f t=>x7 (f.lR ps) t) t
theorem FT {ps:List bS} {fs:List Ty} {k:Nat} {x t:Ty} (h:fs[k]?=some x):BG ps (fs.take (k+1)) t=BG ps (fs.take k) (x7 (x.lR ps) t):=by
 rw [List.take_add_one,h]
 simp [BG]
def pq (ds:List Dt) (s:bS):Option Sc:=(iv ds s 0).bind fun q=>(ds[q.1]?).bind fun d=>(d.cons[q.2]?).map fun c=>⟨d.params.length,BG d.params c.fields (Jt d)⟩
theorem PN {ds:List Dt} {i:Nat} {d:Dt} (hd:ds[i]?=some d) (hp:Sm d.params) {fs:List Ty} (hS:Sm fs) (hO:∀x∈fs,x.Ok) (hC:∀x∈fs,x.Cw):∀(k:Nat),k≤fs.length→∀t:Ty,
   cl AP g193L0 ⟨[(0,.pv (.aD (ds.map Dt.pv))),(4,.az 4 0),(6,.pv (vI i)),(9,.az 9 0),(10,.pv (.aD (fs.map Ty.pv))),(11,.pv (vI ((k:Int)-1)))],
     [(4,[.pv (vI 0),.pv (vI 0),.pv (.str []),.pv (vI 0),.pv (vI 0),.own [] 0]),(9,NA t)],[],[0]⟩ =
   some (.exit 0,⟨[(0,.pv (.aD (ds.map Dt.pv))),(4,.az 4 0),(6,.pv (vI i)),(9,.az 9 0),(10,.pv (.aD (fs.map Ty.pv))),(11,.pv (vI (-1))),(40,.pv (.bool false))],
     [(4,[.pv (vI 0),.pv (vI 0),.pv (.str []),.pv (vI 0),.pv (vI 0),.own [] 0]),(9,NA (BG d.params (fs.take k) t))],[],[0]⟩)
 | 0,hk,t=>by
   rw [g193L0e]
   simp [g193B0,BG]
 | k+1,hk,t=>by
   obtain ⟨x,hx⟩:=bp (l:=fs) (i:=k) (by omega)
   unfold Sm at hS
   have ih:=PN hd hp (fs:=fs) (by unfold Sm;exact hS) hO hC k (by omega) (x7 (x.lR d.params) t)
   have e1:((k+1:Nat):Int)-1=k:=by omega
   have q1:=c198 hp (hO x (bm hx)) (hC x (bm hx))
   have q2:=c69 (a:=x.lR d.params) (b:=t)
   rw [g193L0e,e1,FT hx]
   simp [x7] at ih q1 q2
   simp (disch:=omega) [-getElem?_pos,g193B0,hd,hx,q1,q2,au,ih,x7]
theorem c193 {ds:List Dt} (hS:Sm ds) (hc:∀d∈ds,Sm d.cons) (hp:∀d∈ds,Sm d.params) (hf:∀d∈ds,∀c∈d.cons,Sm c.fields∧(∀x∈c.fields,x.Ok)∧∀x∈c.fields,x.Cw) {s:bS} :
   (aP AP).p 193 [.aD (ds.map Dt.pv),.str s]=some (Lj (pq ds s)):=by
 have k:=c191 hS hc (s:=s)
 rw [aq (af:=g193) rfl rfl (by decide)]
 cases e:iv ds s 0 with
 | none=>
   rw [e] at k
   simp [rF] at k
   simp [g193,k,pq,e,Lj,mi]
 | some q=>
   rw [e] at k
   obtain ⟨_,d,c,hd,hcc,_⟩:=uT e
   simp only [Nat.sub_zero] at hd
   obtain ⟨f1,f2,f3⟩:=hf d (bm hd) c (bm hcc)
   have k2:=c221 (hp d (bm hd))
   have h:=PN hd (hp d (bm hd)) f1 f2 f3 c.fields.length (Nat.le_refl _) (Jt d)
   rw [List.take_length] at h
   rw [g193L0e] at h
   unfold Sm at f1
   simp [rF] at k
   simp at k2 h
   simp (disch:=omega) [-getElem?_pos,g193,k,hd,hcc,k2,pq,e,Lj,au,g193L0e,h]
end Go.Ab.Lw
namespace Go.Ab.Lw
open Ev
theorem QT {sz:Nat} {l:List PV} {k:IntKind} {h:Int} (h0:0≤h) (h1:h≤l.length):cI false sz false true false [.pv (.aD l),.pv (.int k h)]=some (.pv (.aD (l.take h.toNat))):=by
 simp [cI,dS,dG,h0,h1]
def th (l:List bS):List (PV×PV):=l.map fun s=>(.str s,.bool true)
def uV (l:List bS) (s:bS):List bS:=if s∈l then l else l++[s]
theorem mu {s:bS}:∀{l:List bS},hU .str (th l) (.str s)=some (if s∈l then some (.bool true) else none)
 | []=>rfl
 | a::r=>by
   have ih:=mu (s:=s) (l:=r)
   unfold th at ih ⊢
   simp only [List.map_cons,hU,mD]
   by_cases e:s=a
   · subst e;simp
   · rw [show (s == a)=false from by simpa using e]
     simp only [ih,List.mem_cons,e,false_or]
theorem oq {s:bS}:∀{l:List bS},iQ .str (th l) (.str s) (.bool true)=some (th (uV l s))
 | []=>rfl
 | a::r=>by
   have ih:=oq (s:=s) (l:=r)
   unfold th uV at ih ⊢
   simp only [List.map_cons,iQ,mD]
   by_cases e:s=a
   · subst e;simp
   · rw [show (s == a)=false from by simpa using e]
     simp only [ih,List.mem_cons,e,false_or,Option.map_some]
     split<;>simp
def FU:List bS→List bS→Bool
 | _,[]=>false
 | pre,s::r=>decide (s∈pre) || FU (pre++[s]) r
def FV (cons:List bS):List gR→Option Int×List bS
 | []=>(none,cons)
 | c::r=>if c.name∈cons then (some c.pos,cons) else FV (cons++[c.name]) r
def FW (types:List bS) (d:Dt):Bool:=decide (d.name=[73,110,116]∨d.name∈types) || FU [] d.params
def FX (types cons:List bS):List Dt→Option Int
 | []=>none
 | d::r=>if FW types d=true then some d.pos
   else match FV cons d.cons with
     | (some p,_)=>some p
     | (none,cs)=>FX (types++[d.name]) cs r
def ti (ds:List Dt) (ps:List bS):List gR→Option (Int×Int)
 | []=>none
 | c::r=>if Ty.dJ ds ps c.fields≠0 then some (Ty.dJ ds ps c.fields,c.pos) else ti ds ps r
def FY (ds:List Dt):List Dt→Option (Int×Int)
 | []=>none
 | d::r=>match ti ds d.params d.cons with
   | some q=>some q
   | none=>FY ds r
def check (ds:List Dt):Int×Int:=match FX [] [] ds with
 | some p=>(6,p)
 | none=>(FY ds ds).getD (0,0)
def ve (a b:List (PV×PV)):Sh:=[some [.dj a],some [.dj b]]
@[simp] theorem QU (a b:List (PV×PV)):ve a b=[some [.dj a],some [.dj b]]:=rfl
def NV (c:gR):List AV:=[.pv (vI c.pos),.pv (.str c.name),.pv (.aD (c.fields.map Ty.pv))]
@[simp] theorem Qx (c:gR):NV c=[.pv (vI c.pos),.pv (.str c.name),.pv (.aD (c.fields.map Ty.pv))]:=rfl
theorem Mp {ds:List Dt} {d:Dt} {i:Nat} {A B:List (PV×PV)} (hS:Sm d.params):∀(n k:Nat),d.params.length-k=n→k≤d.params.length→∀b:Bool,
   cl AP g188L1 ⟨[(0,.pv (.aD (ds.map Dt.pv))),(2,.az 2 0),(3,.cp 0),(4,.cp 1),(6,.az 6 0),(7,.pv (.bool b)),(22,.pv (.aD (ds.map Dt.pv))),(23,.pv (vI ds.length)),(24,.pv (vI i)),(36,.pv (.aD (d.params.map .str))),(37,.pv (vI d.params.length)),(38,.pv (vI k))],
     [(2,[.pv (vI 0),.pv (vI 0)]),(6,Lv d)],ve A B,[]⟩ =
   some (.exit 2,⟨[(0,.pv (.aD (ds.map Dt.pv))),(2,.az 2 0),(3,.cp 0),(4,.cp 1),(6,.az 6 0),(7,.pv (.bool (b || FU (d.params.take k) (d.params.drop k)))),(22,.pv (.aD (ds.map Dt.pv))),(23,.pv (vI ds.length)),(24,.pv (vI i)),(36,.pv (.aD (d.params.map .str))),(37,.pv (vI d.params.length)),(38,.pv (vI d.params.length)),(39,.pv (.bool false))],
     [(2,[.pv (vI 0),.pv (vI 0)]),(6,Lv d)],ve A B,[]⟩)
 | 0,k,hn,hk,b=>by
   have:k=d.params.length:=by omega
   subst this
   rw [g188L1e]
   simp [g188B1,FU]
 | n+1,k,hn,hk,b=>by
   have hk:k<d.params.length:=by omega
   have hk':k≤d.params.length:=by omega
   obtain ⟨x,hx⟩:=bp hk
   have hSt:Sm (d.params.take k):=by unfold Sm at hS ⊢;simp;omega
   unfold Sm at hS
   have q:=c214 hSt (y:=x)
   have sl:=QT (sz:=1) (l:=d.params.map PV.str) (k:=.i64) (h:=k) (by omega) (by simp;omega)
   have ih:=Mp (ds:=ds) (d:=d) (i:=i) (A:=A) (B:=B) (by unfold Sm;exact hS) n (k+1) (by omega) (by omega)
   have e1:d.params.take (k+1)=d.params.take k++[x]:=by rw [List.take_add_one,hx];rfl
   rw [e1] at ih
   rw [bL hx]
   simp only [FU]
   rw [List.map_take] at q
   simp at sl q
   cases b with
   | true=>
     have ih:=ih true
     rw [g188L1e] at ih ⊢
     simp at ih
     simp (disch:=omega) [-getElem?_pos,g188B1,hx,hk,au]
     rw [g188L1e]
     simp [ih]
   | false=>
     have ih:=ih (decide (x∈d.params.take k))
     rw [g188L1e] at ih ⊢
     simp at ih
     simp (disch:=omega) [-getElem?_pos,g188B1,hx,hk,hk',sl,q,au]
     rw [g188L1e]
     simp [ih]
theorem Mq {ds:List Dt} {i:Nat} {A:List (PV×PV)} {cs:List gR} (hS:Sm cs):∀(n k:Nat),cs.length-k=n→k≤cs.length→∀cons:List bS,
   cl AP g188L2 ⟨[(0,.pv (.aD (ds.map Dt.pv))),(2,.az 2 0),(3,.cp 0),(4,.cp 1),(22,.pv (.aD (ds.map Dt.pv))),(23,.pv (vI ds.length)),(24,.pv (vI i)),(58,.pv (.aD (cs.map gR.pv))),(59,.pv (vI cs.length)),(60,.pv (vI k))],
     [(2,[.pv (vI 0),.pv (vI 0)])],ve A (th cons),[]⟩ =
   match FV cons (cs.drop k) with
   | (some p,c2)=>some (.ret,⟨[(2,.az 2 0)],[(2,[.pv (vI 6),.pv (vI p)])],ve A (th c2),[]⟩)
   | (none,c2)=>some (.exit 4,⟨[(0,.pv (.aD (ds.map Dt.pv))),(2,.az 2 0),(3,.cp 0),(4,.cp 1),(22,.pv (.aD (ds.map Dt.pv))),(23,.pv (vI ds.length)),(24,.pv (vI i)),(58,.pv (.aD (cs.map gR.pv))),(59,.pv (vI cs.length)),(60,.pv (vI cs.length)),(61,.pv (.bool false))],
     [(2,[.pv (vI 0),.pv (vI 0)])],ve A (th c2),[]⟩)
 | 0,k,hn,hk,cons=>by
   have:k=cs.length:=by omega
   subst this
   rw [g188L2e]
   simp [g188B2,FV]
 | n+1,k,hn,hk,cons=>by
   have hk:k<cs.length:=by omega
   obtain ⟨x,hx⟩:=bp hk
   unfold Sm at hS
   have f1:=mu (s:=x.name) (l:=cons)
   have f2:=oq (s:=x.name) (l:=cons)
   have ih:=Mq (ds:=ds) (i:=i) (A:=A) (cs:=cs) (by unfold Sm;exact hS) n (k+1) (by omega) (by omega) (cons++[x.name])
   rw [bL hx]
   simp only [FV]
   rw [g188L2e] at ih ⊢
   by_cases e:x.name∈cons
   · simp [e] at f1
     simp (disch:=omega) [-getElem?_pos,g188B2,hx,hk,f1,e]
   · simp [e,uV] at f1 f2
     simp at ih
     simp (disch:=omega) [-getElem?_pos,g188B2,hx,hk,f1,f2,e,au]
     rw [g188L2e]
     simp [ih]
theorem PO {ds:List Dt} (hS:Sm ds) (hp:∀d∈ds,Sm d.params) (hc:∀d∈ds,Sm d.cons):∀(n i:Nat),ds.length-i=n→i≤ds.length→∀types cons:List bS,∃A B,
   cl AP g188L0 ⟨[(0,.pv (.aD (ds.map Dt.pv))),(2,.az 2 0),(3,.cp 0),(4,.cp 1),(22,.pv (.aD (ds.map Dt.pv))),(23,.pv (vI ds.length)),(24,.pv (vI i))],
     [(2,[.pv (vI 0),.pv (vI 0)])],ve (th ([73,110,116]::types)) (th cons),[]⟩ =
   match FX types cons (ds.drop i) with
   | some p=>some (.ret,⟨[(2,.az 2 0)],[(2,[.pv (vI 6),.pv (vI p)])],ve A B,[]⟩)
   | none=>some (.exit 0,⟨[(0,.pv (.aD (ds.map Dt.pv))),(2,.az 2 0),(3,.cp 0),(4,.cp 1),(22,.pv (.aD (ds.map Dt.pv))),(23,.pv (vI ds.length)),(24,.pv (vI ds.length)),(25,.pv (.bool false))],
     [(2,[.pv (vI 0),.pv (vI 0)])],ve A B,[]⟩)
 | 0,i,hn,hi,types,cons=>by
   have:i=ds.length:=by omega
   subst this
   refine ⟨th ([73,110,116]::types),th cons,?_⟩
   rw [g188L0e]
   simp [g188B0,FX]
 | n+1,i,hn,hi,types,cons=>by
   have hi:i<ds.length:=by omega
   obtain ⟨d,hd⟩:=bp hi
   unfold Sm at hS
   have hpd:=hp d (bm hd)
   have f1:=mu (s:=d.name) (l:=[73,110,116]::types)
   have f2:=oq (s:=d.name) (l:=[73,110,116]::types)
   have k1:=Mp (ds:=ds) (d:=d) (i:=i) (A:=th (uV ([73,110,116]::types) d.name)) (B:=th cons) hpd _ 0 rfl (by omega) (decide (d.name∈[73,110,116]::types))
   have k2:=Mq (ds:=ds) (i:=i) (A:=th (uV ([73,110,116]::types) d.name)) (hc d (bm hd)) _ 0 rfl (by omega) cons
   have eb:(decide (d.name∈[73,110,116]::types) || FU (d.params.take 0) (d.params.drop 0))=FW types d:=by
     simp [FW]
   rw [eb] at k1
   rw [bL hd]
   simp only [FX]
   rw [g188L1e] at k1
   rw [g188L2e] at k2
   have hv:(if d.name∈[73,110,116]::types then some (PV.bool true) else none).getD (.bool false)=.bool (decide (d.name∈[73,110,116]::types)):=by
     by_cases e:d.name∈[73,110,116]::types<;>simp only [e,if_true,if_false,decide_true,decide_false]<;>rfl
   by_cases e:FW types d=true
   · refine ⟨th (uV ([73,110,116]::types) d.name),th cons,?_⟩
     rw [if_pos e,g188L0e]
     rw [e] at k1
     generalize [73,110,116]::types=T at f1 f2 hv k1 ⊢
     generalize uV T d.name=T' at f2 k1 ⊢
     simp [g188L1e] at k1
     simp (disch:=omega) [-getElem?_pos,g188B0,hd,hi,f1,f2,hv]
     rw [g188L1e]
     simp [k1]
   · have e':FW types d=false:=by simpa using e
     have ea:uV ([73,110,116]::types) d.name=[73,110,116]::(types++[d.name]):=by
       unfold uV
       rw [if_neg]
       · rfl
       · intro h
         apply e
         simp only [FW,Bool.or_eq_true,decide_eq_true_eq]
         left
         simpa using h
     rw [if_neg e]
     rw [e'] at k1
     rw [ea] at f2 k1 k2
     cases hC:FV cons d.cons with
     | mk o cs=>
       rw [List.drop_zero,hC] at k2
       cases o with
       | some p=>
         refine ⟨th ([73,110,116]::(types++[d.name])),th cs,?_⟩
         rw [g188L0e]
         generalize [73,110,116]::types=T at f1 f2 hv k1 ⊢
         generalize [73,110,116]::(types++[d.name])=T' at f2 k1 k2 ⊢
         simp at k1 k2
         simp (disch:=omega) [-getElem?_pos,g188B0,hd,hi,f1,f2,hv]
         rw [g188L1e]
         simp [k1]
         rw [g188L2e]
         simp [k2]
       | none=>
         obtain ⟨A,B,ih⟩:=PO (ds:=ds) (by unfold Sm;exact hS) hp hc n (i+1) (by omega) (by omega) (types++[d.name]) cs
         refine ⟨A,B,?_⟩
         rw [g188L0e] at ih ⊢
         generalize [73,110,116]::types=T at f1 f2 hv k1 ⊢
         generalize [73,110,116]::(types++[d.name])=T' at f2 k1 k2 ih ⊢
         simp at k1 k2 ih
         simp (disch:=omega) [-getElem?_pos,g188B0,hd,hi,f1,f2,hv]
         rw [g188L1e]
         simp [k1]
         rw [g188L2e]
         simp (disch:=omega) [k2,au]
         rw [g188L0e]
         simp [ih]
end Go.Ab.Lw
namespace Go.Ab.Lw
open Ev
theorem Mr {ds:List Dt} (hds:Sm ds) {d:Dt} (hp:Sm d.params) {c:gR} {i k:Nat} {A B:List (PV×PV)} (hS:Sm c.fields) (hO:∀x∈c.fields,x.Ok):∀(n j:Nat),c.fields.length-j=n→j≤c.fields.length →
   cl AP g188L5 ⟨[(0,.pv (.aD (ds.map Dt.pv))),(2,.az 2 0),(13,.az 13 0),(15,.az 15 0),(76,.pv (.aD (ds.map Dt.pv))),(77,.pv (vI ds.length)),(78,.pv (vI i)),(83,.pv (.aD (d.cons.map gR.pv))),(84,.pv (vI d.cons.length)),(85,.pv (vI k)),(90,.pv (.aD (c.fields.map Ty.pv))),(91,.pv (vI c.fields.length)),(92,.pv (vI j))],
     [(2,[.pv (vI 0),.pv (vI 0)]),(13,Lv d),(15,NV c)],ve A B,[]⟩ =
   if Ty.dJ ds d.params (c.fields.drop j)≠0 then some (.ret,⟨[(2,.az 2 0)],[(2,[.pv (vI (Ty.dJ ds d.params (c.fields.drop j))),.pv (vI c.pos)])],ve A B,[]⟩)
   else some (.exit 10,⟨[(0,.pv (.aD (ds.map Dt.pv))),(2,.az 2 0),(13,.az 13 0),(15,.az 15 0),(76,.pv (.aD (ds.map Dt.pv))),(77,.pv (vI ds.length)),(78,.pv (vI i)),(83,.pv (.aD (d.cons.map gR.pv))),(84,.pv (vI d.cons.length)),(85,.pv (vI k)),(90,.pv (.aD (c.fields.map Ty.pv))),(91,.pv (vI c.fields.length)),(92,.pv (vI c.fields.length)),(93,.pv (.bool false))],
     [(2,[.pv (vI 0),.pv (vI 0)]),(13,Lv d),(15,NV c)],ve A B,[]⟩)
 | 0,j,hn,hj=>by
   have:j=c.fields.length:=by omega
   subst this
   rw [g188L5e]
   simp [g188B5,Ty.dJ]
 | n+1,j,hn,hj=>by
   have hj:j<c.fields.length:=by omega
   obtain ⟨x,hx⟩:=bp hj
   have q:=c185 hds hp (hO x (bm hx))
   unfold Sm at hS
   have ih:=Mr hds hp (c:=c) (i:=i) (k:=k) (A:=A) (B:=B) (by unfold Sm;exact hS) hO n (j+1) (by omega) (by omega)
   rw [bL hx]
   simp only [Ty.dJ]
   rw [g188L5e] at ih ⊢
   simp at ih q
   by_cases e:x.formed ds d.params=0
   · rw [e] at q
     simp (disch:=omega) [-getElem?_pos,g188B5,hx,hj,q,e,au]
     rw [g188L5e]
     simp [ih]
   · simp (disch:=omega) [-getElem?_pos,g188B5,hx,hj,q,e]
theorem Ms {ds:List Dt} (hds:Sm ds) {d:Dt} (hp:Sm d.params) {i:Nat} {A B:List (PV×PV)} (hS:Sm d.cons) (hf:∀c∈d.cons,Sm c.fields∧∀x∈c.fields,x.Ok):∀(n k:Nat),d.cons.length-k=n→k≤d.cons.length →
   cl AP g188L4 ⟨[(0,.pv (.aD (ds.map Dt.pv))),(2,.az 2 0),(13,.az 13 0),(76,.pv (.aD (ds.map Dt.pv))),(77,.pv (vI ds.length)),(78,.pv (vI i)),(83,.pv (.aD (d.cons.map gR.pv))),(84,.pv (vI d.cons.length)),(85,.pv (vI k))],
     [(2,[.pv (vI 0),.pv (vI 0)]),(13,Lv d)],ve A B,[]⟩ =
   match ti ds d.params (d.cons.drop k) with
   | some q=>some (.ret,⟨[(2,.az 2 0)],[(2,[.pv (vI q.1),.pv (vI q.2)])],ve A B,[]⟩)
   | none=>some (.exit 8,⟨[(0,.pv (.aD (ds.map Dt.pv))),(2,.az 2 0),(13,.az 13 0),(76,.pv (.aD (ds.map Dt.pv))),(77,.pv (vI ds.length)),(78,.pv (vI i)),(83,.pv (.aD (d.cons.map gR.pv))),(84,.pv (vI d.cons.length)),(85,.pv (vI d.cons.length)),(86,.pv (.bool false))],
     [(2,[.pv (vI 0),.pv (vI 0)]),(13,Lv d)],ve A B,[]⟩)
 | 0,k,hn,hk=>by
   have:k=d.cons.length:=by omega
   subst this
   rw [g188L4e]
   simp [g188B4,ti]
 | n+1,k,hn,hk=>by
   have hk:k<d.cons.length:=by omega
   obtain ⟨c,hx⟩:=bp hk
   obtain ⟨f1,f2⟩:=hf c (bm hx)
   have h:=Mr hds hp (c:=c) (i:=i) (k:=k) (A:=A) (B:=B) f1 f2 _ 0 rfl (by omega)
   unfold Sm at hS
   have ih:=Ms hds hp (i:=i) (A:=A) (B:=B) (by unfold Sm;exact hS) hf n (k+1) (by omega) (by omega)
   rw [bL hx]
   simp only [ti]
   rw [g188L4e] at ih ⊢
   rw [g188L5e] at h
   simp at ih h
   by_cases e:Ty.dJ ds d.params c.fields=0
   · simp [e] at h
     simp (disch:=omega) [-getElem?_pos,g188B4,hx,hk,e]
     rw [g188L5e]
     simp (disch:=omega) [h,au]
     rw [g188L4e]
     simp [ih]
   · simp [e] at h
     simp (disch:=omega) [-getElem?_pos,g188B4,hx,hk,e]
     rw [g188L5e]
     simp [h]
theorem Mu {ds:List Dt} (hds:Sm ds) (hp:∀d∈ds,Sm d.params) (hc:∀d∈ds,Sm d.cons) (hf:∀d∈ds,∀c∈d.cons,Sm c.fields∧∀x∈c.fields,x.Ok) {A B:List (PV×PV)}:∀(n i:Nat),ds.length-i=n→i≤ds.length →
   cl AP g188L3 ⟨[(0,.pv (.aD (ds.map Dt.pv))),(2,.az 2 0),(76,.pv (.aD (ds.map Dt.pv))),(77,.pv (vI ds.length)),(78,.pv (vI i))],
     [(2,[.pv (vI 0),.pv (vI 0)])],ve A B,[]⟩ =
   match FY ds (ds.drop i) with
   | some q=>some (.ret,⟨[(2,.az 2 0)],[(2,[.pv (vI q.1),.pv (vI q.2)])],ve A B,[]⟩)
   | none=>some (.exit 6,⟨[(0,.pv (.aD (ds.map Dt.pv))),(2,.az 2 0),(76,.pv (.aD (ds.map Dt.pv))),(77,.pv (vI ds.length)),(78,.pv (vI ds.length)),(79,.pv (.bool false))],
     [(2,[.pv (vI 0),.pv (vI 0)])],ve A B,[]⟩)
 | 0,i,hn,hi=>by
   have:i=ds.length:=by omega
   subst this
   rw [g188L3e]
   simp [g188B3,FY]
 | n+1,i,hn,hi=>by
   have hi:i<ds.length:=by omega
   obtain ⟨d,hd⟩:=bp hi
   have h:=Ms hds (hp d (bm hd)) (i:=i) (A:=A) (B:=B) (hc d (bm hd)) (hf d (bm hd)) _ 0 rfl (by omega)
   have ih:=Mu hds hp hc hf (A:=A) (B:=B) n (i+1) (by omega) (by omega)
   have hds':=hds
   unfold Sm at hds'
   rw [bL hd]
   simp only [FY]
   rw [g188L3e] at ih ⊢
   rw [g188L4e] at h
   simp at ih h
   cases e:ti ds d.params d.cons with
   | none=>
     rw [e] at h
     simp at h
     simp (disch:=omega) [-getElem?_pos,g188B3,hd,hi]
     rw [g188L4e]
     simp (disch:=omega) [h,au]
     rw [g188L3e]
     simp [ih]
   | some q=>
     rw [e] at h
     simp at h
     simp (disch:=omega) [-getElem?_pos,g188B3,hd,hi]
     rw [g188L4e]
     simp [h]
theorem c188 {ds:List Dt} (hds:Sm ds) (hp:∀d∈ds,Sm d.params) (hc:∀d∈ds,Sm d.cons) (hf:∀d∈ds,∀c∈d.cons,Sm c.fields∧∀x∈c.fields,x.Ok) :
   (aP AP).p 188 [.aD (ds.map Dt.pv)]=some [.agg [vI (check ds).1,vI (check ds).2]]:=by
 obtain ⟨A,B,h1⟩:=PO hds hp hc _ 0 rfl (by omega) [] []
 have h2:=Mu hds hp hc hf (A:=A) (B:=B) _ 0 rfl (by omega)
 rw [aq (af:=g188) rfl rfl (by decide)]
 unfold check
 rw [g188L0e] at h1
 rw [g188L3e] at h2
 have f1:iQ .str [] (.str [73,110,116]) (.bool true)=some [(.str [73,110,116],.bool true)]:=rfl
 simp [th] at h1 h2
 cases e1:FX [] [] ds with
 | some p=>
   rw [e1] at h1
   simp at h1
   simp [g188,f1,g188L0e,h1]
 | none=>
   rw [e1] at h1
   simp at h1
   cases e2:FY ds ds with
   | none=>
     rw [e2] at h2
     simp at h2
     simp [g188,f1,g188L0e,h1,g188L3e,h2]
   | some q=>
     rw [e2] at h2
     simp at h2
     simp [g188,f1,g188L0e,h1,g188L3e,h2]
end Go.Ab.Lw
namespace Go.Ab.Lw
open Ev
theorem BH {l:List bS} {t:Ty} (h:t.Ok):(t.lR l).Ok:=by
 revert h
 refine Ty.eE (p:=fun t=>t.Ok→(t.lR l).Ok) ?_ t
 intro t ih h
 rw [Ty.BF]
 split
 · exact cO rfl
 · refine ⟨by have:=h.sm;unfold Sm at this ⊢;simpa using this,?_⟩
   intro x hx
   simp only [List.mem_map] at hx
   obtain ⟨y,hy,rfl⟩:=hx
   exact ih y hy (h.fM y hy)
end Go.Ab.Lw
namespace Go.Ab.Lw
open Ev
def fieldsOf (ds:List Dt) (s:bS) (as:List Ty):Option (List Ty):=(iv ds s 0).bind fun q=>(ds[q.1]?).bind fun d=>(d.cons[q.2]?).bind fun c=>if as.length=d.params.length then some (c.fields.map fun f=>(f.lR d.params).ml as) else none
def PQ (o:Option (List Ty)):List PV:=[.aD ((o.getD []).map Ty.pv),.bool o.isSome]
theorem PR {ds:List Dt} {i:Nat} {d:Dt} (hd:ds[i]?=some d) (hp:Sm d.params) {as:List Ty} (ha:Sm as) {fs:List Ty} (hS:Sm fs) (hO:∀x∈fs,x.Ok) (hC:∀x∈fs,x.Cw):∀(n j:Nat),fs.length-j=n→j≤fs.length→∀acc:List Ty,acc=(fs.take j).map (fun f=>(f.lR d.params).ml as) →
   cl AP g207L0 ⟨[(0,.pv (.aD (ds.map Dt.pv))),(2,.pv (.aD (as.map Ty.pv))),(8,.pv (vI i)),(11,.own (acc.map Ty.pv) 0),(12,.pv (.aD (fs.map Ty.pv))),(13,.pv (vI j))],[],[],[acc.length]⟩ =
     some (.exit 0,⟨[(0,.pv (.aD (ds.map Dt.pv))),(2,.pv (.aD (as.map Ty.pv))),(8,.pv (vI i)),(11,.own ((fs.map (fun f=>(f.lR d.params).ml as)).map Ty.pv) 0),(12,.pv (.aD (fs.map Ty.pv))),(13,.pv (vI fs.length)),(46,.pv (.bool false))],[],[],[fs.length]⟩)
 | 0,j,hn,hj,acc,hacc=>by
   have:j=fs.length:=by omega
   subst this
   subst hacc
   rw [g207L0e]
   simp [g207B0]
 | n+1,j,hn,hj,acc,hacc=>by
   have hj:j<fs.length:=by omega
   obtain ⟨x,hx⟩:=bp hj
   have q1:=c198 hp (hO x (bm hx)) (hC x (bm hx))
   have q2:=c48 ha (t:=x.lR d.params) (BH (hO x (bm hx)))
   unfold Sm at hS
   have hb:(acc.length+1)*64≤140737488355328:=by subst hacc;simp;omega
   have ih:=PR hd hp ha (fs:=fs) (by unfold Sm;exact hS) hO hC n (j+1) (by omega) (by omega) (acc++[(x.lR d.params).ml as]) (by rw [List.take_add_one,hx,hacc];simp)
   generalize x.lR d.params=u at q1 q2 ih
   generalize u.ml as=v at q2 ih
   rw [g207L0e] at ih ⊢
   simp at ih q1 q2
   simp (disch:=omega) [-getElem?_pos,g207B0,hd,hx,hj,q1,q2,hb,au]
   rw [g207L0e]
   simp [ih]
theorem c207 {ds:List Dt} (h:Small ds) {as:List Ty} (ha:Sm as) {s:bS}:(aP AP).p 207 [.aD (ds.map Dt.pv),.str s,.aD (as.map Ty.pv)]=some (PQ (fieldsOf ds s as)):=by
 have k:=c191 h.num h.gq (s:=s)
 rw [aq (af:=g207) rfl rfl (by decide)]
 cases e:iv ds s 0 with
 | none=>
   rw [e] at k
   simp [rF] at k
   simp [g207,k,fieldsOf,e,PQ]
 | some q=>
   rw [e] at k
   obtain ⟨_,d,c,hd,hc,_⟩:=uT e
   simp only [Nat.sub_zero] at hd
   obtain ⟨f1,f2,f3⟩:=h.Qw d (bm hd) c (bm hc)
   have hl:=PR hd (h.par d (bm hd)) ha f1 f2 f3 _ 0 rfl (by omega) [] rfl
   rw [g207L0e] at hl
   simp [rF] at k
   by_cases e2:as.length=d.params.length
   · simp at hl
     simp (disch:=omega) [-getElem?_pos,g207,k,hd,hc,fieldsOf,e,PQ,e2,g207L0e,hl]
   · have e3:¬(as.length:Int)=d.params.length:=by omega
     simp (disch:=omega) [-getElem?_pos,g207,k,hd,hc,fieldsOf,e,PQ,e2,e3]
end Go.Ab.Lw
namespace Go.Ab.Lw
open Ev
theorem x8 {S:List Ty} (hf:S.length<1099511627776) {l:List Ty} (hG:∀t∈l,Good S t):Sm (vars l):=by
 have c0:iu (S.map Ty.id) []:=nd (by simpa using hf)
 refine (c0.fold (l:=l.flatMap Ty.nodes) ?_).len
 intro x hx hk
 simp only [List.mem_flatMap] at hx
 obtain ⟨t,ht,hx⟩:=hx
 exact List.mem_map_of_mem ((hG t ht).sub x (oj (hG t ht).wf x hx hk))
end Go.Ab.Lw
namespace Go.Ab.Lw
open Ev
mutual
def Ty.jv (k:Int):Ty→Bool
 | ⟨q,_,_,_,as⟩=>decide (q=k) || Ty.x9 k as
def Ty.x9 (k:Int):List Ty→Bool
 | []=>false
 | a::r=>a.jv k || Ty.x9 k r
end
theorem Ty.tj (k:Int):∀l:List Ty,Ty.x9 k l=l.any (Ty.jv k)
 | []=>by simp [Ty.x9]
 | a::r=>by simp [Ty.x9,Ty.tj k r]
theorem Ty.Lx (k:Int) (t:Ty):t.jv k=(decide (t.kind=k) || t.args.any (Ty.jv k)):=by
 cases t;simp only [Ty.jv,Ty.tj]
theorem PS {t:Ty} {k:Int} (hS:Sm t.args) (h:∀x∈t.args,(aP AP).p 351 [x.pv,vI k]=some [.bool (x.jv k)]):∀(n i:Nat),t.args.length-i=n→i≤t.args.length →
   cl AP g351L0 ⟨[(1,.pv (vI k)),(2,.az 2 0),(5,.pv (vI i))],[(2,[.pv (vI t.kind),.pv (.str t.name),.pv (vI t.id),.pv (vI t.home),.pv (.aD (t.args.map Ty.pv))])],[],[]⟩ =
     if (t.args.drop i).any (Ty.jv k)=true then some (.ret,⟨[(4,.pv (.bool true))],[],[],[]⟩)
     else some (.exit 0,⟨[(1,.pv (vI k)),(2,.az 2 0),(5,.pv (vI t.args.length)),(14,.pv (.bool false))],[(2,[.pv (vI t.kind),.pv (.str t.name),.pv (vI t.id),.pv (vI t.home),.pv (.aD (t.args.map Ty.pv))])],[],[]⟩)
 | 0,i,hn,hi=>by
   have:i=t.args.length:=by omega
   subst this
   rw [g351L0e]
   simp [g351B0]
 | n+1,i,hn,hi=>by
   have hi:i<t.args.length:=by omega
   obtain ⟨x,hx⟩:=bp hi
   unfold Sm at hS
   have c:=h x (bm hx)
   have ih:=PS hS h n (i+1) (by omega) (by omega)
   rw [g351L0e] at ih ⊢
   rw [bL hx,List.any_cons]
   cases e:x.jv k with
   | true=>
     rw [e] at c
     simp at c
     simp (disch:=omega) [-getElem?_pos,g351B0,hx,hi,c]
   | false=>
     rw [e] at c
     simp at c
     rw [Bool.false_or,←ih]
     simp (disch:=omega) [-getElem?_pos,g351B0,hx,hi,c,au]
     rw [g351L0e]
     simp [g351B0]
theorem c351 {t:Ty} {k:Int} (hO:t.Ok):(aP AP).p 351 [t.pv,vI k]=some [.bool (t.jv k)]:=by
 revert hO
 refine Ty.eE (p:=fun t=>t.Ok→(aP AP).p 351 [t.pv,vI k]=some [.bool (t.jv k)]) ?_ t
 intro t ih hO
 have h:=PS (k:=k) hO.sm (fun x hx=>ih x hx (hO.fM x hx)) _ 0 rfl (by omega)
 rw [aq (af:=g351) rfl rfl (by decide),Ty.Lx]
 rw [g351L0e] at h
 by_cases e:t.kind=k
 · simp [g351,e]
 · cases e':t.args.any (Ty.jv k) with
   | true=>simp only [List.drop_zero,e'] at h;simp at h;simp [g351,e,g351L0e,h]
   | false=>simp only [List.drop_zero,e'] at h;simp at h;simp [g351,e,g351L0e,h]
end Go.Ab.Lw
namespace Go.Ab.Lw
open Ev
def vr (x:Ty):List Int:=if x.kind=1 then [x.id] else []
end Go.Ab.Lw
namespace Go.Ab.Lw
open Ev
def jX (h:Int):Nat→List Ty
 | 0=>[]
 | n+1=>jX h n++[na h n]
theorem kQ (h:Int):∀n,(jX h n).length=n
 | 0=>rfl
 | n+1=>by simp [jX,kQ h n]
theorem PT {T:Ty} {h:Int} {nm:List bS} {q:List AV} (hq7:q=T.cl) (hS:nm.length<1000000000):∀(n i:Nat),nm.length-i=n→i≤nm.length →
   cl AP g327L0 ⟨[(1,.pv (vI h)),(4,.az 4 0),(5,.az 5 0),(6,.pv (.aD (nm.map .str))),(7,.az 7 0),(8,.own ((jX h i).map Ty.pv) 0),(9,.pv (vI i))],
     [(4,[.pv (vI 0),.pv (.str []),.pv (vI 0),.pv (vI 0),.own [] 1]),(5,[.pv (vI 0),.pv (vI 0),.pv (.str []),.pv (vI 0),.pv (vI 0),.own [] 2]),(7,q)],[],[i,0,0]⟩ =
     some (.exit 0,⟨[(1,.pv (vI h)),(4,.az 4 0),(5,.az 5 0),(6,.pv (.aD (nm.map .str))),(7,.az 7 0),(8,.own ((jX h nm.length).map Ty.pv) 0),(9,.pv (vI nm.length)),(18,.pv (.bool false))],
     [(4,[.pv (vI 0),.pv (.str []),.pv (vI 0),.pv (vI 0),.own [] 1]),(5,[.pv (vI 0),.pv (vI 0),.pv (.str []),.pv (vI 0),.pv (vI 0),.own [] 2]),(7,q)],[],[nm.length,0,0]⟩)
 | 0,i,hn,hi=>by
   have:i=nm.length:=by omega
   subst this
   have hl:=kQ h nm.length
   subst hq7
   generalize jX h nm.length=R at *
   rw [g327L0e]
   simp [g327B0,hl,Ty.cl]
 | n+1,i,hn,hi=>by
   have hi:i<nm.length:=by omega
   have ih:=PT (h:=h) hq7 hS n (i+1) (by omega) (by omega)
   have k:=c71 (n:=h) (m:=i)
   have hl:=kQ h i
   have hb:(i+1)*64≤140737488355328:=by omega
   have hr:(jX h (i+1)).map Ty.pv=(jX h i).map Ty.pv++[(na h i).pv]:=by simp [jX]
   rw [hr] at ih
   subst hq7
   generalize jX h i=R at *
   rw [g327L0e] at ih ⊢
   simp [hl,Ty.cl,na] at ih k
   simp (disch:=omega) [-getElem?_pos,g327B0,hi,hl,k,hb,Ty.cl,au]
   rw [g327L0e]
   simp [hl,ih]
theorem c327 {S:List bS} (hf:S.length<1000000000) {t:Ty} (hO:t.Ok) (hC:t.Cw) (hk:∀y∈t.d0,y∈S) {h:Int}:(aP AP).p 327 [t.pv,vI h]=some [((t.lR (cC t)).ml (jX h (cC t).length)).pv,(As.mk (cC t).length (t.lR (cC t))).pv]:=by
 have hcn:=gn.fold (S:=S) (l:=t.d0) (out:=[]) ⟨by simp,by simp,by omega⟩ hk
 have hnl:(cC t).length<1000000000:=by
   have:=fK hcn.nodup hcn.sub
   unfold cC
   omega
 have k1:=c196 (S:=S) (by omega) hO hk
 have k2:=c198 (l:=cC t) (by unfold Sm;omega) hO hC
 have hbO:=BH (l:=cC t) hO
 have k3:=c48 (s:=jX h (cC t).length) (by unfold Sm;rw [kQ];omega) hbO
 generalize cC t=nm at *
 generalize t.lR nm=T at *
 have h4:=PT (h:=h) (T:=T) (nm:=nm) rfl hnl _ 0 rfl (by omega)
 generalize jX h nm.length=R at *
 generalize T.ml R=U at *
 rw [g327L0e] at h4
 simp [jX,Ty.cl] at h4
 simp at k1 k2 k3
 rw [aq (af:=g327) rfl rfl (by decide)]
 simp [g327,k1,k2,g327L0e,h4,k3]
end Go.Ab.Lw
namespace Go.Ab.Lw
open Ev
theorem c325 {S:List bS} (hf:S.length<1000000000) {t:Ty} (hO:t.Ok) (hC:t.Cw) (hk:∀y∈t.d0,y∈S):(aP AP).p 325 [t.pv]=some [((t.lR (cC t)).ml (jX 98 (cC t).length)).pv]:=by
 have k:=c327 hf hO hC hk (h:=98)
 generalize (t.lR (cC t)).ml (jX 98 (cC t).length)=U at *
 simp at k
 rw [aq (af:=g325) rfl rfl (by decide)]
 simp [g325,k]
theorem PU {vs:List Int} (hv:Sm vs) {t:Ty}:∀(n i:Nat),vs.length-i=n→i≤vs.length→∀acc:List As,acc.length≤i →
   cl AP g363L0 ⟨[(1,.az 1 0),(2,.az 2 0),(3,.pv (.aD (vs.map vI))),(4,.own (acc.map As.pv) 0),(5,.pv (vI i))],[(1,tC t),(2,zC 1)],[],[acc.length,0]⟩ =
     some (.exit 0,⟨[(1,.az 1 0),(2,.az 2 0),(3,.pv (.aD (vs.map vI))),(4,.own ((acc++(vs.drop i).map fun v=>As.mk v br).map As.pv) 0),(5,.pv (vI vs.length)),(12,.pv (.bool false))],[(1,tC t),(2,zC 1)],[],[(acc++(vs.drop i).map fun v=>(⟨v,br⟩:As)).length,0]⟩)
 | 0,i,hn,hi,acc,ha=>by
   have:i=vs.length:=by omega
   subst this
   rw [g363L0e]
   simp [g363B0,tC,zC]
 | n+1,i,hn,hi,acc,ha=>by
   have hi:i<vs.length:=by omega
   obtain ⟨x,hx⟩:=bp hi
   unfold Sm at hv
   have hb:(acc.length+1)*72≤140737488355328:=by omega
   have k:=c34
   have ih:=PU (t:=t) hv n (i+1) (by omega) (by omega) (acc++[⟨x,br⟩]) (by simp;omega)
   rw [g363L0e] at ih ⊢
   rw [bL hx]
   simp [tC,zC,br] at ih k
   simp (disch:=omega) [-getElem?_pos,g363B0,tC,zC,br,hx,hi,k,au,hb]
   rw [g363L0e]
   simp [ih]
theorem c363 {S:List Ty} (hf:S.length<1099511627776) (hSo:∀x∈S,x.Ok) {t:Ty} (hG:Good S t):(aP AP).p 363 [t.pv]=some [(t.sub ((vars [t]).map fun v=>As.mk v br)).pv]:=by
 have k1:=g56 hf hSo (l:=[t]) (by simp [Sm]) (by simpa using hG)
 have hv:=x8 hf (l:=[t]) (by simpa using hG)
 have h:=PU (t:=t) hv _ 0 rfl (by omega) [] (by simp)
 have k2:=c46 (s:=(vars [t]).map fun v=>As.mk v br) (by unfold Sm at *;simpa using hv) hG.ok
 generalize vars [t]=vs at *
 rw [g363L0e] at h
 simp [tC,zC] at h
 simp at k1 k2
 rw [aq (af:=g363) rfl rfl (by decide)]
 simp [g363,k1,k2,g363L0e,h]
end Go.Ab.Lw
namespace Go.Ab.Lw
open Ev
def gz (k:Nat):List AV:=[.pv (vI 0),.pv (vI 0),.pv (.str []),.pv (vI 0),.pv (vI 0),.own [] k]
end Go.Ab.Lw
namespace Go.Ab.Lw
open Ev
theorem PW {l:List Ex} (hl:l.length≤2000) {k:Int} (IH:∀x∈l,∃b,(aP AP).p 307 [x.pv,vI k]=some [.bool b]):∀(n i:Nat),l.length-i=n→i≤l.length →
   cl AP g307L0 ⟨[(1,.pv (vI k)),(5,.pv (.aD (l.map Ex.pv))),(6,.pv (vI i))],[],[],[]⟩=some (.ret,⟨[(4,.pv (.bool true))],[],[],[]⟩) ∨
   cl AP g307L0 ⟨[(1,.pv (vI k)),(5,.pv (.aD (l.map Ex.pv))),(6,.pv (vI i))],[],[],[]⟩=some (.exit 0,⟨[(1,.pv (vI k)),(5,.pv (.aD (l.map Ex.pv))),(6,.pv (vI l.length)),(16,.pv (.bool false))],[],[],[]⟩)
 | 0,i,hn,hi=>by
   have:i=l.length:=by omega
   subst this
   refine .inr ?_
   rw [g307L0e]
   simp [g307B0]
 | n+1,i,hn,hi=>by
   have hi:i<l.length:=by omega
   obtain ⟨x,hx⟩:=bp hi
   obtain ⟨b,c⟩:=IH x (bm hx)
   have he:=IY.len x
   have ho:=IY.of x
   cases b with
   | true=>
     refine .inl ?_
     simp at c he ho
     rw [g307L0e]
     simp (disch:=omega) [-getElem?_pos,g307B0,hx,hi,c,he,ho]
   | false=>
     have ih:=PW hl IH n (i+1) (by omega) (by omega)
     have e1:cl AP g307L0 ⟨[(1,.pv (vI k)),(5,.pv (.aD (l.map Ex.pv))),(6,.pv (vI i))],[],[],[]⟩=cl AP g307L0 ⟨[(1,.pv (vI k)),(5,.pv (.aD (l.map Ex.pv))),(6,.pv (vI (i+1:Nat)))],[],[],[]⟩:=by
       conv=>lhs;rw [g307L0e]
       simp at c he ho
       simp (disch:=omega) [-getElem?_pos,g307B0,hx,hi,c,au,he,ho]
     rw [e1]
     exact ih
theorem c307 {e:Ex} (h:e.Ok) (k:Int):∃b,(aP AP).p 307 [e.pv,vI k]=some [.bool b]:=by
 induction h with
 | @mk e hk ha hv ht hc ih=>
   have k1:=c145 (Ex.Ok.mk hk ha hv ht hc)
   have hl:e.ch.length≤2000:=by rw [Ex.kO];omega
   have L:=PW hl ih _ 0 rfl (by omega)
   rw [g307L0e] at L
   simp at L k1
   by_cases q:e.kind=k
   · refine ⟨true,?_⟩
     rw [aq (af:=g307) rfl rfl (by decide)]
     simp [g307,q]
   · rcases L with L | L
     · refine ⟨true,?_⟩
       rw [aq (af:=g307) rfl rfl (by decide)]
       simp [g307,q,k1,g307L0e,L]
     · refine ⟨false,?_⟩
       rw [aq (af:=g307) rfl rfl (by decide)]
       simp [g307,q,k1,g307L0e,L]
end Go.Ab.Lw
namespace Go.Ab.Lw
open Ev
def gC (i:Nat):List Int→List As
 | []=>[]
 | v::r=>⟨v,cd i⟩::gC (i+1) r
theorem Ju {i:Nat} {l:List Int}:(gC i l).length=l.length:=by
 induction l generalizing i with
 | nil=>rfl
 | cons a r ih=>simp [gC,ih]
theorem Mv {l:List Ty} {vs:List Int} (hv:Sm vs):∀(n i:Nat),vs.length-i=n→i≤vs.length→∀acc:List As,acc.length≤i →
   cl AP g395L0 ⟨[(0,.pv (.aD (l.map Ty.pv))),(3,.pv (.aD (vs.map vI))),(4,.own (acc.map As.pv) 0),(5,.pv (vI i))],[],[],[acc.length]⟩ =
     some (.exit 0,⟨[(0,.pv (.aD (l.map Ty.pv))),(3,.pv (.aD (vs.map vI))),(4,.own ((acc++gC i (vs.drop i)).map As.pv) 0),(5,.pv (vI vs.length)),(13,.pv (.bool false))],[],[],[(acc++gC i (vs.drop i)).length]⟩)
 | 0,i,hn,hi,acc,ha=>by
   have:i=vs.length:=by omega
   subst this
   rw [g395L0e]
   simp [g395B0,gC]
 | n+1,i,hn,hi,acc,ha=>by
   have hi:i<vs.length:=by omega
   obtain ⟨x,hx⟩:=bp hi
   unfold Sm at hv
   have hb:(acc.length+1)*72≤140737488355328:=by omega
   have k:=c63 (n:=i)
   have ih:=Mv (l:=l) hv n (i+1) (by omega) (by omega) (acc++[As.mk x (cd i)]) (by simp;omega)
   rw [g395L0e] at ih ⊢
   rw [bL hx]
   simp [cd] at ih k
   simp (disch:=omega) [-getElem?_pos,g395B0,hx,hi,k,au,hb,gC,cd]
   rw [g395L0e]
   simp [ih]
theorem Mw {l:List Ty} (hl:Sm l) (hO:∀t∈l,t.Ok) {s:List As} (hs:Sm s):∀(n i:Nat),l.length-i=n→i≤l.length→∀acc:List Ty,acc.length≤i →
   cl AP g395L1 ⟨[(0,.pv (.aD (l.map Ty.pv))),(4,.own (s.map As.pv) 0),(6,.own (acc.map Ty.pv) 1),(7,.pv (vI i))],[],[],[s.length,acc.length]⟩ =
     some (.exit 2,⟨[(0,.pv (.aD (l.map Ty.pv))),(4,.own (s.map As.pv) 0),(6,.own ((acc++(l.drop i).map (Ty.sub s)).map Ty.pv) 1),(7,.pv (vI l.length)),(29,.pv (.bool false))],[],[],[s.length,(acc++(l.drop i).map (Ty.sub s)).length]⟩)
 | 0,i,hn,hi,acc,ha=>by
   have:i=l.length:=by omega
   subst this
   rw [g395L1e]
   simp [g395B1]
 | n+1,i,hn,hi,acc,ha=>by
   have hi:i<l.length:=by omega
   obtain ⟨x,hx⟩:=bp hi
   have hl':=hl
   unfold Sm at hl
   have hb:(acc.length+1)*64≤140737488355328:=by omega
   have k:=c46 hs (hO x (bm hx))
   have ih:=Mw hl' hO hs n (i+1) (by omega) (by omega) (acc++[x.sub s]) (by simp;omega)
   rw [g395L1e] at ih ⊢
   rw [bL hx]
   simp at ih k
   simp (disch:=omega) [-getElem?_pos,g395B1,hx,hi,k,au,hb]
   rw [g395L1e]
   simp [ih]
theorem c395i {S:List Ty} (hf:S.length<1099511627776) (hSo:∀x∈S,x.Ok) {l:List Ty} (hl:Sm l) (hG:∀t∈l,Good S t):(aP AP).i 395 [.pv (.aD (l.map Ty.pv))] [] []=some ([.own ((l.map (Ty.sub (gC 0 (vars l)))).map Ty.pv) 0],[],[l.length]):=by
 have k1:=g56 hf hSo hl hG
 have hv:=x8 hf hG
 have h1:=Mv (l:=l) hv _ 0 rfl (by omega) [] (by simp)
 have hs:Sm (gC 0 (vars l)):=by unfold Sm at *;rw [Ju];exact hv
 have h2:=Mw hl (fun t ht=>(hG t ht).ok) hs _ 0 rfl (by omega) [] (by simp)
 generalize vars l=vs at *
 rw [g395L0e] at h1
 rw [g395L1e] at h2
 simp at h1 h2 k1
 generalize gC 0 vs=s at *
 rw [aK (af:=g395) rfl (by simp [g395])]
 simp [g395,k1,g395L0e,h1,g395L1e,h2]
end Go.Ab.Lw
namespace Go.Ab.Lw
open Ev
theorem c377 {s:List As} (hs:Sm s) {c:Sc} (hO:c.ty.Ok):(aP AP).p 377 [.aD (s.map As.pv),c.pv]=some [(As.mk c.id (c.ty.sub s)).pv]:=by
 have k:=c22 hs hO
 generalize c.ty.sub s=u at *
 simp at k
 rw [aq (af:=g377) rfl rfl (by decide)]
 simp [g377,k]
theorem Mx {l:List En} (hl:Sm l) {g:Ty} {b:PV}:∀(n i:Nat),l.length-i=n→i≤l.length→∀acc:List Ty,acc.length≤i →
   cl AP g376L0 ⟨[(2,.pv b),(3,.az 3 0),(6,.az 6 0),(8,.own (acc.map Ty.pv) 0),(9,.pv (.aD (l.map En.pv))),(10,.pv (vI i))],[(3,tC g),(6,[.own [] 1,.own [] 2])],[],[acc.length,0,0]⟩ =
     some (.exit 0,⟨[(2,.pv b),(3,.az 3 0),(6,.az 6 0),(8,.own ((acc++(l.drop i).map fun x=>x.sc.ty).map Ty.pv) 0),(9,.pv (.aD (l.map En.pv))),(10,.pv (vI l.length)),(21,.pv (.bool false))],[(3,tC g),(6,[.own [] 1,.own [] 2])],[],[(acc++(l.drop i).map fun x=>x.sc.ty).length,0,0]⟩)
 | 0,i,hn,hi,acc,ha=>by
   have:i=l.length:=by omega
   subst this
   rw [g376L0e]
   simp [g376B0,tC]
 | n+1,i,hn,hi,acc,ha=>by
   have hi:i<l.length:=by omega
   obtain ⟨x,hx⟩:=bp hi
   unfold Sm at hl
   have hb:(acc.length+1)*64≤140737488355328:=by omega
   have ih:=Mx (g:=g) (b:=b) hl n (i+1) (by omega) (by omega) (acc++[x.sc.ty]) (by simp;omega)
   rw [g376L0e] at ih ⊢
   rw [bL hx]
   simp [tC] at ih
   simp (disch:=omega) [-getElem?_pos,g376B0,tC,hx,hi,au,hb]
   rw [g376L0e]
   simp [ih]
end Go.Ab.Lw
namespace Go.Ab.Lw
open Ev
def sj:Nat→dK
 | 0=>⟨[],[]⟩
 | i+1=>di (sj i) 1000000 false
theorem Jv:∀i,ub (sj i).sl=i
 | 0=>rfl
 | i+1=>by
   have:=Jv i
   simp only [ub] at this
   simp [sj,di,ub,List.countP_append,this]
theorem uW:∀i,Inv i (i*i+4*i) (ei i) (sj i)
 | 0=>⟨rfl,by simp [sj,ub],by simp [sj],by simp [sj],⟨fun _=>0,by rintro i v ⟨k,x,_,h,_⟩;simp [sj] at h⟩,by simp [sj]⟩
 | i+1=>by
   have I:=uW i
   refine te I 1000000 false ?_
   rw [Jv]
   have:(i+1)*(i+1)=i*i+2*i+1:=by rw [Nat.add_mul,Nat.mul_add];omega
   omega
theorem My {vs:List Int} (hv:vs.length≤5000):∀(n i:Nat),vs.length-i=n→i≤vs.length→∀acc:List As,acc.length≤i →
   cl AP g376L1 ⟨[(2,.pv (.aD [])),(6,.az 6 0),(11,.pv (.aD (vs.map vI))),(12,.az 12 0),(13,.own (acc.map As.pv) 0),(14,.pv (vI i))],[(6,[.own [] 1,.own [] 2]),(12,sC (sj i))],[],[acc.length,0,0]⟩ =
     some (.exit 2,⟨[(2,.pv (.aD [])),(6,.az 6 0),(11,.pv (.aD (vs.map vI))),(12,.az 12 0),(13,.own ((acc++gC i (vs.drop i)).map As.pv) 0),(14,.pv (vI vs.length)),(42,.pv (.bool false))],[(6,[.own [] 1,.own [] 2]),(12,sC (sj vs.length))],[],[(acc++gC i (vs.drop i)).length,0,0]⟩)
 | 0,i,hn,hi,acc,ha=>by
   have:i=vs.length:=by omega
   subst this
   rw [g376L1e]
   simp [g376B1,sC,gC]
 | n+1,i,hn,hi,acc,ha=>by
   have hi:i<vs.length:=by omega
   obtain ⟨x,hx⟩:=bp hi
   have hb:(acc.length+1)*72≤140737488355328:=by omega
   have k0:=c95 (s:=[]) (by simp [Sm]) (y:=x)
   have I:=uW i
   have hq:i*i≤5000*5000:=Nat.mul_le_mul (by omega) (by omega)
   have k:=c381 I.J0 (by omega) (by omega) 1000000 false
   rw [I.len] at k
   have ih:=My hv n (i+1) (by omega) (by omega) (acc++[As.mk x (cd i)]) (by simp;omega)
   simp only [sj] at ih
   generalize di (sj i) 1000000 false=s1 at *
   generalize sj i=s0 at *
   rw [g376L1e] at ih ⊢
   rw [bL hx]
   simp [cd] at k
   simp [sC,cd] at ih
   simp at k0
   simp (disch:=omega) [-getElem?_pos,g376B1,sC,hx,hi,k,k0,au,hb,gC,cd]
   rw [g376L1e]
   simp [ih]
end Go.Ab.Lw
namespace Go.Ab.Lw
open Ev
theorem c376 {S:List Ty} (hf:S.length≤5000) (hSo:∀x∈S,x.Ok) {g:Ty} (hg:Good S g) {l:List En} (hl:Sm l) (hl2:l.length<1000000) (hG:∀x∈l,Good S x.sc.ty):∃vs:List Int,vs=vars (g::(dr l).map fun x=>x.sc.ty)∧vs.length≤5000 ∧
   (aP AP).p 376 [g.pv,.aD (l.map En.pv),.aD []]=some [(sj vs.length).pv,.aD ((gC 0 vs).map As.pv)]:=by
 have hsl:=rh l
 have k1:=c201 hl
 have hG2:∀t∈(g::(dr l).map fun x=>x.sc.ty),Good S t:=by
   intro t ht
   simp only [List.mem_cons,List.mem_map] at ht
   rcases ht with rfl | ⟨x,hx,rfl⟩
   · exact hg
   · exact hG x (rf l x hx)
 have hs:Sm (dr l):=by unfold Sm at *;omega
 have h1:=Mx hs (g:=g) (b:=.aD []) _ 0 rfl (by omega) [] (by simp)
 have k2:=g56 (by omega) hSo (l:=g::(dr l).map fun x=>x.sc.ty) (by unfold Sm at *;simp;omega) hG2
 have hv:(vars (g::(dr l).map fun x=>x.sc.ty)).length≤5000:=by
   have c0:iu (S.map Ty.id) []:=nd (by simp;omega)
   have c1:=c0.fold (l:=(g::(dr l).map fun x=>x.sc.ty).flatMap Ty.nodes) (by
     intro x hx hk
     simp only [List.mem_flatMap] at hx
     obtain ⟨t,ht,hx⟩:=hx
     exact List.mem_map_of_mem ((hG2 t ht).sub x (oj (hG2 t ht).wf x hx hk)))
   have:=fK c1.nodup c1.sub
   rw [List.length_map] at this
   unfold vars
   omega
 refine ⟨_,rfl,hv,?_⟩
 generalize vars (g::(dr l).map fun x=>x.sc.ty)=vs at *
 have h2:=My hv _ 0 rfl (by omega) [] (by simp)
 have k3:=c388
 have hb:(1+(dr l).length)*64≤140737488355328:=by omega
 rw [g376L0e] at h1
 rw [g376L1e] at h2
 generalize sj vs.length=s2 at *
 simp [tC] at h1
 simp [sj,sC] at h2
 have hh:=Ce.head ((dr l).map fun x=>x.sc.ty)
 generalize dr l=E at *
 simp at k1 k2 k3 hh
 rw [aq (af:=g376) rfl rfl (by decide)]
 by_cases hE:E=[]
 · subst hE
   simp at h1 k1 k2
   simp (disch:=omega) [g376,k1,g376L0e,h1,hb,hh,k2,k3,g376L1e,h2]
 · simp (disch:=omega) [g376,k1,g376L0e,h1,hb,hh,hE,k2,k3,g376L1e,h2]
end Go.Ab.Lw
namespace Go.Ab.Lw
open Ev
def nv (s:dK):Nat→dK
 | 0=>s
 | i+1=>di (nv s i) 1000000 false
theorem Mz {s:List Sl}:ub s≤s.length:=List.countP_le_length
theorem lE {n M:Nat} {s:dK} (I:Inv n M (ei n) s):∀i,Inv (n+i) (M+i*(2*(n+i)+4)) (ei (n+i)) (nv s i)
 | 0=>by simpa [nv] using I
 | i+1=>by
   have J:=lE I i
   have hu:ub (nv s i).sl≤n+i:=by have:=Mz (s:=(nv s i).sl);rw [J.len] at this;exact this
   refine te J 1000000 false ?_
   have:(i+1)*(2*(n+(i+1))+4)=i*(2*(n+i)+4)+i*2+(2*(n+(i+1))+4):=by
     rw [Nat.add_mul,Nat.one_mul,show 2*(n+(i+1))+4=(2*(n+i)+4)+2 by omega,Nat.mul_add]
   omega
def x_ (c:Sc):List AV:=[.pv (vI c.id),.pv (vI c.ty.kind),.pv (.str c.ty.name),.pv (vI c.ty.id),.pv (vI c.ty.home),.pv (.aD (c.ty.args.map Ty.pv))]
theorem MA {n M:Nat} {s:dK} (I:Inv n M (ei n) s) {c:Sc} {K:Nat} (hc:c.id=K) (hN:n+K≤10000) (hM:M≤1000000) {g:Ty} {p3:PV} {p4:PV}:∀(k i:Nat),K-i=k→i≤K→∀acc:List Ty,acc.length=i →
   cl AP g389L0 ⟨[(3,.pv p3),(4,.pv p4),(5,.az 5 0),(6,.az 6 0),(7,.az 7 0),(13,.own (acc.map Ty.pv) 0),(14,.pv (vI i))],[(5,sC (nv s i)),(6,x_ c),(7,tC g)],[],[acc.length]⟩ =
     some (.exit 0,⟨[(3,.pv p3),(4,.pv p4),(5,.az 5 0),(6,.az 6 0),(7,.az 7 0),(13,.own ((acc++(List.range' i (K-i)).map fun j=>cd (n+j:Nat)).map Ty.pv) 0),(14,.pv (vI K)),(39,.pv (.bool false))],[(5,sC (nv s K)),(6,x_ c),(7,tC g)],[],[K]⟩)
 | 0,i,hk,hi,acc,ha=>by
   have:i=K:=by omega
   subst this
   rw [g389L0e]
   simp [g389B0,sC,x_,tC,hc,ha]
 | k+1,i,hk,hi,acc,ha=>by
   have hi:i<K:=by omega
   have J:=lE I i
   have hq:i*(2*(n+i)+4)≤10000*20004:=Nat.mul_le_mul (by omega) (by omega)
   have c1:=c381 J.J0 (by omega) (by omega) 1000000 false
   rw [J.len] at c1
   have ih:=MA I hc hN hM (g:=g) (p3:=p3) (p4:=p4) k (i+1) (by omega) (by omega) (acc++[cd (n+i:Nat)]) (by simp;omega)
   have hr:List.range' i (K-i)=i::List.range' (i+1) (K-(i+1)):=by
     rw [show K-i=(K-(i+1))+1 by omega,List.range'_succ]
   have hb:(acc.length+1)*64≤140737488355328:=by omega
   simp only [nv] at ih
   rw [hr]
   generalize di (nv s i) 1000000 false=s1 at *
   generalize nv s i=s0 at *
   rw [g389L0e] at ih ⊢
   simp [cd] at c1
   simp [sC,x_,tC,cd,hc] at ih
   simp (disch:=omega) [-getElem?_pos,g389B0,sC,x_,tC,hc,hi,c1,au,hb,cd]
   rw [g389L0e]
   simp [ih]
end Go.Ab.Lw
namespace Go.Ab.Lw
open Ev
def ya (t:Ty):Prop:=t.Ok∧t.Kw
theorem MB {s:dK} {x:Ty} (hx:x.Ok) {ns:List Nat} (hns:ns.length=x.args.length) (IH:∀(i:Nat) a n,x.args[i]?=some a→ns[i]?=some n→∃u:Ty,(aP AP).p 373 [s.pv,a.pv]=some [u.pv]∧ya u∧u.nodes.length=n):∀(k i:Nat),x.args.length-i=k→i≤x.args.length→∀acc:List Ty,acc.length=i→(∀u∈acc,ya u)→(acc.flatMap Ty.nodes).length=(ns.take i).sum→∃us:List Ty,
   cl AP g373L0 ⟨[(2,.az 2 0),(3,.az 3 0),(4,.az 4 0),(5,.az 5 0),(6,.pv (vI i))],[(2,sC s),(3,tC x),(4,zC 0),(5,uC x acc 1)],[],[0,acc.length]⟩ =
     some (.exit 0,⟨[(2,.az 2 0),(3,.az 3 0),(4,.az 4 0),(5,.az 5 0),(6,.pv (vI x.args.length)),(16,.pv (.bool false))],[(2,sC s),(3,tC x),(4,zC 0),(5,uC x us 1)],[],[0,us.length]⟩)∧us.length=x.args.length∧(∀u∈us,ya u)∧(us.flatMap Ty.nodes).length=ns.sum
 | 0,i,hk,hi,acc,ha,hu,hc=>by
   have:i=x.args.length:=by omega
   subst this
   refine ⟨acc,?_,ha,hu,by rw [hc,←hns,List.take_length]⟩
   rw [g373L0e]
   simp [g373B0,sC,tC,zC,uC]
 | k+1,i,hk,hi,acc,ha,hu,hc=>by
   have hi:i<x.args.length:=by omega
   obtain ⟨a,hax⟩:=bp hi
   obtain ⟨n,hn⟩:=bp (l:=ns) (i:=i) (by omega)
   have hsm:=hx.sm
   unfold Sm at hsm
   obtain ⟨u,e,hO,hnn⟩:=IH i a n hax hn
   obtain ⟨us,e',h1,h2,h3⟩:=MB hx hns IH k (i+1) (by omega) (by omega) (acc++[u]) (by simp;omega) (by
     intro y hy;simp at hy;rcases hy with hy | rfl
     · exact hu y hy
     · exact hO) (by rw [List.take_add_one,hn,List.flatMap_append,List.length_append,hc];simp [hnn])
   refine ⟨us,?_,h1,h2,h3⟩
   have hb:(acc.length+1)*64≤140737488355328:=by omega
   rw [g373L0e] at e' ⊢
   simp at e
   simp [sC,tC,zC,uC] at e'
   simp (disch:=omega) [-getElem?_pos,g373B0,sC,tC,zC,uC,hi,hax,au,e,hb]
   rw [g373L0e]
   simp [e']
theorem c373k {s:dK} (hs:Sm s.sl) (hO:∀x∈s.sl,x.ty.Ok) (hW:∀x∈s.sl,x.ty.Kw) (r:Nat):∀t:Ty,Tr s.sl t r→ya t→∃u:Ty,(aP AP).p 373 [s.pv,t.pv]=some [u.pv]∧ya u∧u.nodes.length=r:=by
 induction r using Nat.strongRecOn with
 | ind r ih=>
   intro t ht hto
   have k:=c386 hs (t:=t)
   have hw:(wk s.sl (s.sl.length+1) t).Ok:=kL hO hto.1
   have hk:(wk s.sl (s.sl.length+1) t).Kw:=nr hW hto.2
   obtain ⟨ns,hn,hr⟩:=ht.inv
   unfold jU at hn
   obtain ⟨us,e,h1,h2,h3⟩:=MB (s:=s) hw hn.1 (fun i a n hi hni=>by
     have:=uP hni
     exact ih n (by omega) a (hn.2 i a n hi hni) ⟨hw.fM a (bm hi),hk.fM a (bm hi)⟩) _ 0 rfl (by omega) [] rfl (by simp) rfl
   refine ⟨⟨(wk s.sl (s.sl.length+1) t).kind,(wk s.sl (s.sl.length+1) t).name,(wk s.sl (s.sl.length+1) t).id,(wk s.sl (s.sl.length+1) t).home,us⟩,?_,⟨⟨by have:=hw.sm;unfold Sm at *;simp only;omega,fun y hy=>(h2 y hy).1⟩,.mk (fun q=>?_) fun y hy=>(h2 y hy).2⟩,by rw [Ty.bl];simp only [List.length_cons];omega⟩
   · rw [aq (af:=g373) rfl rfl (by decide)]
     rw [g373L0e] at e
     generalize wk s.sl (s.sl.length+1) t=x at *
     simp at k
     simp [sC,tC,zC,uC] at e
     simp [g373,k,g373L0e,e]
   · have:=hk.hd q
     refine ⟨this.1,?_⟩
     rw [this.2] at h1
     exact List.length_eq_zero_iff.1 h1
theorem NW:bN.Kw:=.bare rfl (by simp [bN])
theorem c358k {s:dK} (hs:Sm s.sl) (hO:∀x∈s.sl,x.ty.Ok) (hW:∀x∈s.sl,x.ty.Kw) {t:Ty} (ht:ya t):∃(u:Ty) (b:Bool),(aP AP).p 358 [s.pv,t.pv]=some [u.pv,.bool b]∧ya u∧u.nodes.length≤4000:=by
 obtain ⟨r,e,h1,h2,h3⟩:=c355 hs hO (m:=4000) (by omega) ht.1
 simp at e
 by_cases hr:r≤4000
 · obtain ⟨u,e2,hu,hnu⟩:=c373k hs hO hW r t (h3 hr) ht
   refine ⟨u,true,?_,hu,by omega⟩
   simp at e2
   have hr':¬(4000:Int)<r:=by omega
   rw [aq (af:=g358) rfl rfl (by decide)]
   simp [g358,e,hr',e2]
 · refine ⟨bN,false,?_,⟨cO rfl,NW⟩,by rw [Ty.bl];simp [bN]⟩
   have hr':(4000:Int)<r:=by omega
   rw [aq (af:=g358) rfl rfl (by decide)]
   simp [g358,e,hr',bN]
def mw (n:Nat):Ty:=⟨4,[45,62],0,0,[cd n,cd (n+1:Nat)]⟩
theorem rJ {n:Int}:(cd n).Kw:=.bare rfl (by simp [cd])
theorem nA {S:List Int} {n:Int} (h:n∈S):Fit S (cd n):=⟨cO rfl,rJ,fun w ho=>by rw [i_ (t:=cd n) rfl ho];exact h⟩
theorem rK {n:Nat}:Fit (ei (n+2)) (mw n) where
 ok:=⟨by simp [mw,Sm],by intro x hx;simp [mw] at hx;rcases hx with rfl | rfl<;>exact cO rfl⟩
 wf:=.mk (by simp [mw]) (by intro x hx;simp [mw] at hx;rcases hx with rfl | rfl<;>exact rJ)
 lC:=by
   intro w ho
   cases ho with
   | var q=>simp [mw] at q
   | arg _ ha ho=>
     simp [mw] at ha
     rcases ha with rfl | rfl
     · exact (nA (S:=ei (n+2)) (er.2 (by omega))).lC w ho
     · exact (nA (S:=ei (n+2)) (er.2 (by omega))).lC w ho
theorem uX {s:dK} {i:Nat} {v:Sl} (h:s.sl[i]?=some v):∀k,(nv s k).sl[i]?=some v
 | 0=>h
 | k+1=>by
   have ih:=uX h k
   have hl:i<(nv s k).sl.length:=by obtain ⟨h,_⟩:=List.getElem?_eq_some_iff.1 ih;exact h
   simp only [nv,di]
   rw [List.getElem?_append_left hl]
   exact ih
theorem BI {s:dK} {v:Int}:∀{k:Nat},og (nv s k).sl v→og s.sl v
 | 0,h=>h
 | k+1,h=>by
   obtain ⟨j,x,e,hx,hb⟩:=h
   simp only [nv,di] at hx
   by_cases hl:j<(nv s k).sl.length
   · rw [List.getElem?_append_left hl] at hx
     exact BI (k:=k) ⟨j,x,e,hx,hb⟩
   · rw [List.getElem?_append_right (by omega)] at hx
     have:j-(nv s k).sl.length=0:=by
       have:=(List.getElem?_eq_some_iff.1 hx).1
       simpa using this
     rw [this] at hx
     simp at hx
     subst hx
     cases hb
theorem NX {s:List Sl} {v:Int} (h:og s v):v<s.length:=by
 obtain ⟨k,x,e,hx,_⟩:=h
 have:=(List.getElem?_eq_some_iff.1 hx).1
 omega
theorem Ly {n M:Nat} {s:dK} (I:Inv n M (ei n) s) {i:Nat} {v:Sl} (hv:s.sl[i]?=some v) (hf:¬og s.sl (i:Int)) :
   Inv (n+2) (M+2*(2*(n+2)+4)) (ei (n+2)) (gw (nv s 2) i v ⟨true,mw n,v.home,v.base⟩):=by
 have J:=lE I 2
 have h1:=uX hv 2
 have fi:¬og (nv s 2).sl (i:Int):=fun h=>hf (BI h)
 have hi:i<n:=by have:=(List.getElem?_eq_some_iff.1 hv).1;rw [I.len] at this;exact this
 refine (xZ J (t:=mw n) h1 fi Kp.refl (by omega) h1 rK.ok rK.wf rK.lC ?_ rfl rfl).1
 rintro ⟨w,ho,hr⟩
 have hw:n≤w:=by
   cases ho with
   | var q=>simp [mw] at q
   | arg _ ha ho=>
     simp [mw] at ha
     rcases ha with rfl | rfl
     · rw [i_ (t:=cd n) rfl ho];simp [cd]
     · have:=i_ (t:=cd ((n:Int)+1)) rfl ho;simp [cd] at this;omega
 have hnb:¬og (nv s 2).sl w:=fun h=>by
   have:=NX (BI h)
   rw [I.len] at this
   omega
 have:=rn hr hnb
 omega
end Go.Ab.Lw
namespace Go.Ab.Lw
open Ev
theorem Fit.gB {S S':List Int} {t:Ty} (h:Fit S t) (hS:∀w∈S,w∈S'):Fit S' t:=⟨h.ok,h.wf,fun w ho=>hS w (h.lC w ho)⟩
theorem tq {n m:Nat} (h:n≤m):∀w∈ei n,w∈ei m:=fun w hw=>by have:=er.1 hw;exact er.2 (by omega)
structure PX (m M:Nat) (s:dK) (t w g:Ty) (args:List Ty) (vs:List As):Prop where
 inv:Inv m M (ei m) s
 t:Fit (ei m) t
 w:Fit (ei m) w
 g:Fit (ei m) g
 args:∀a∈args,Fit (ei m) a
 vs:∀x∈vs,Fit (ei m) x.ty
theorem Fit.wk {m M:Nat} {s:dK} (I:Inv m M (ei m) s) {t:Ty} (h:Fit (ei m) t):Fit (ei m) (jU s.sl t):=⟨kL I.ok h.ok,nr I.wf h.wf,jW I.lC h.lC⟩
theorem c194a {a b:Ty}:(aP AP).p 194 [(Ty.mk 4 [45,62] 0 0 [a,b]).pv]=some [a.pv,b.pv,.bool true]:=by
 rw [aq (af:=g194) rfl rfl (by decide)]
 simp [g194]
theorem c194f {S:List Int} {t:Ty} (ht:Fit S t):∃(a b:Ty) (c:Bool),(aP AP).p 194 [t.pv]=some [a.pv,b.pv,.bool c]∧(c=true→t.kind=4∧Fit S a∧Fit S b):=by
 obtain ⟨a,b,c,e,_,_,h⟩:=c194g ht.ok
 refine ⟨a,b,c,e,?_⟩
 intro hc
 have q:=h hc
 have hk:t.kind=4:=by rw [q]
 have ha:a∈t.args:=by rw [q];simp
 have hb:b∈t.args:=by rw [q];simp
 have hn:t.kind≠1:=by rw [hk];decide
 exact ⟨hk,⟨ht.ok.fM a ha,ht.wf.fM a ha,fun w ho=>ht.lC w (.arg hn ha ho)⟩,⟨ht.ok.fM b hb,ht.wf.fM b hb,fun w ho=>ht.lC w (.arg hn hb ho)⟩⟩
def kR (q:aL):Option (a6×St):=some (.ret,⟨[(10,.bB []),(11,.bB []),(12,.pv (.bool false))],[],[],q⟩)
def kb (vs:List As) (N:Nat) (s:dK) (g w t:Ty) (args:List Ty):St:=⟨[(3,.pv (.aD (vs.map As.pv))),(4,.pv (vI N)),(5,.az 5 0),(7,.az 7 0),(16,.az 16 0),(17,.az 17 0),(18,.own (args.map Ty.pv) 0)],[(5,sC s),(7,tC g),(16,tC w),(17,tC t)],[],[args.length]⟩
theorem PY {m M:Nat} {s:dK} {t w g:Ty} {args:List Ty} {vs:List As} (E:PX m M s t w g args vs) (hm:m≤30000) (hM:M≤10000000) {N:Nat} (hl:args.length<N) (hN:N≤1000) :
   (∃q,cl AP g389L1 (kb vs N s g w t args)=kR q)∨∃m' M' s' t' args',m≤m'∧m'≤m+2∧M'≤M+200000∧args'.length=args.length+1∧PX m' M' s' t' w g args' vs∧cl AP g389L1 (kb vs N s g w t args)=cl AP g389L1 (kb vs N s' g w t' args'):=by
 have hsl:=E.inv.len
 have hsm:Sm s.sl:=by unfold Sm;omega
 have k1:=c386 hsm (t:=t)
 have F:=E.t.wk E.inv
 have fr:=rG E.inv.Jn (t:=t)
 change (aP AP).p 386 [s.pv,t.pv]=some [(jU s.sl t).pv] at k1
 generalize jU s.sl t=x at *
 have hb:(args.length+1)*64≤140737488355328:=by omega
 have hlN:(args.length:Int)<N:=by omega
 have wk2:∀w∈ei m,w∈ei (m+2):=tq (by omega)
 by_cases hk:x.kind=1
 · have BX:=er.1 (F.lC _ (.var hk))
   obtain ⟨i,hi⟩:∃i:Nat,x.id=i:=⟨x.id.toNat,by omega⟩
   have him:i<m:=by omega
   have his:i<s.sl.length:=by omega
   obtain ⟨o,ho⟩:=bp his
   have fi:¬og s.sl (i:Int):=by rw [←hi];exact iO hk fr
   cases hbs:o.base with
   | true=>
     left
     obtain ⟨a,b,c,k2,h2⟩:=c194f F
     have hc:c=false:=by
       cases c with
       | false=>rfl
       | true=>have:=(h2 rfl).1;omega
     subst hc
     simp [hk,hi] at k1 k2
     rw [g389L1e]
     simp (disch:=omega) [-getElem?_pos,g389B1,kb,kR,sC,tC,hlN,k1,hk,hi,his,ho,hbs,k2]
   | false=>
     right
     have J:=lE E.inv 1
     have hu:ub (nv s 1).sl≤m+1:=by have:=Mz (s:=(nv s 1).sl);rw [J.len] at this;exact this
     have c1:=c381 E.inv.J0 (by omega) (by omega) 1000000 false
     have c2:=c381 J.J0 (by omega) (by omega) 1000000 false
     have J2:=lE E.inv 2
     have h2:=uX ho 2
     have c4:=c393 J2.J0 (by omega) (by omega) h2 ⟨true,mw m,o.home,o.base⟩
     have c3:=c69 (a:=cd m) (b:=cd (m+1:Nat))
     have c5:=c194a (a:=cd m) (b:=cd (m+1:Nat))
     have I:=Ly E.inv ho fi
     have e1:nv s 1=di s 1000000 false:=rfl
     have e2:nv s 2=di (di s 1000000 false) 1000000 false:=rfl
     have hl2:(nv s 2).sl.length=m+2:=J2.len
     rw [hsl] at c1
     rw [J.len,e1] at c2
     refine ⟨m+2,M+200000,gw (nv s 2) i o ⟨true,mw m,o.home,o.base⟩,cd (m+1:Nat),args++[cd m],by omega,by omega,by omega,by simp,⟨I.gB (by omega) (fun _ h=>h),nA (er.2 (by omega)),E.w.gB wk2,E.g.gB wk2,?_,fun x hx=>(E.vs x hx).gB wk2⟩,?_⟩
     · intro a ha
       simp at ha
       rcases ha with ha | rfl
       · exact (E.args a ha).gB wk2
       · exact nA (er.2 (by omega))
     · rw [e2] at c4 h2 hl2 ⊢
       generalize gw (di (di s 1000000 false) 1000000 false) i o ⟨true,mw m,o.home,o.base⟩=s3 at *
       generalize di (di s 1000000 false) 1000000 false=s2 at *
       generalize di s 1000000 false=s1 at *
       have hi2:i<s2.sl.length:=by omega
       simp [hk,hi] at k1
       simp [cd,hbs] at c1 c2 c3 c4 c5
       simp [mw,cd] at c4
       conv=>lhs;rw [g389L1e]
       simp (disch:=omega) [-getElem?_pos,g389B1,kb,sC,tC,hlN,k1,hk,hi,his,ho,hbs,c1,c2,h2,hi2,c3,c4,c5,cd,hb]
 · obtain ⟨a,b,c,k2,h2⟩:=c194f F
   simp at k1 k2
   cases c with
   | false=>
     left
     rw [g389L1e]
     simp (disch:=omega) [-getElem?_pos,g389B1,kb,kR,sC,tC,hlN,k1,hk,k2]
   | true=>
     right
     obtain ⟨_,fa,fb⟩:=h2 rfl
     refine ⟨m,M,s,b,args++[a],by omega,by omega,by omega,by simp,⟨E.inv,fb,E.w,E.g,?_,E.vs⟩,?_⟩
     · intro y hy
       simp at hy
       rcases hy with hy | rfl
       · exact E.args y hy
       · exact fa
     · conv=>lhs;rw [g389L1e]
       simp (disch:=omega) [-getElem?_pos,g389B1,kb,sC,tC,hlN,k1,hk,k2,hb]
theorem MC {vs:List As} {N:Nat} (hN:N≤1000) {w g:Ty}:∀(k m M:Nat) (s:dK) (t:Ty) (args:List Ty),N-args.length=k→args.length≤N→PX m M s t w g args vs→m+2*k≤30000→M+200000*k≤10000000 →
   (∃q,cl AP g389L1 (kb vs N s g w t args)=kR q)∨∃m' M' s' t' args',m'≤30000∧M'≤10000000∧args'.length=N∧PX m' M' s' t' w g args' vs∧cl AP g389L1 (kb vs N s g w t args)=some (.exit 2,⟨[(3,.pv (.aD (vs.map As.pv))),(4,.pv (vI N)),(5,.az 5 0),(7,.az 7 0),(16,.az 16 0),(17,.az 17 0),(18,.own (args'.map Ty.pv) 0),(59,.pv (.bool false))],[(5,sC s'),(7,tC g),(16,tC w),(17,tC t')],[],[args'.length]⟩)
 | 0,m,M,s,t,args,hk,ha,E,h1,h2=>by
   have hl:args.length=N:=by omega
   refine .inr ⟨m,M,s,t,args,by omega,by omega,hl,E,?_⟩
   rw [g389L1e]
   simp [g389B1,kb,sC,tC,hl]
 | k+1,m,M,s,t,args,hk,ha,E,h1,h2=>by
   rcases PY E (by omega) (by omega) (N:=N) (by omega) hN with h | ⟨m',M',s',t',args',a1,a2,a3,a4,E',e⟩
   · exact .inl h
   · rw [e]
     exact MC hN k m' M' s' t' args' (by omega) (by omega) E' (by omega) (by omega)
end Go.Ab.Lw
namespace Go.Ab.Lw
open Ev
def FZ (u:Ty):Prop:=ya u∧u.nodes.length≤4000
theorem MD {m M:Nat} {s:dK} (I:Inv m M (ei m) s) (hm:m≤1000000) {vs:List As} (hv:vs.length≤100000) (hF:∀x∈vs,Fit (ei m) x.ty) {args:List Ty}:∀(k i:Nat),vs.length-i=k→i≤vs.length→∀acc:List Ty,acc.length=i→(∀u∈acc,FZ u) →
   (∃q,cl AP g389L2 ⟨[(3,.pv (.aD (vs.map As.pv))),(5,.az 5 0),(18,.own (args.map Ty.pv) 0),(29,.own (acc.map Ty.pv) 1),(30,.pv (vI i))],[(5,sC s)],[],[args.length,acc.length]⟩=kR q) ∨
   ∃us:List Ty,us.length=vs.length∧(∀u∈us,FZ u)∧cl AP g389L2 ⟨[(3,.pv (.aD (vs.map As.pv))),(5,.az 5 0),(18,.own (args.map Ty.pv) 0),(29,.own (acc.map Ty.pv) 1),(30,.pv (vI i))],[(5,sC s)],[],[args.length,acc.length]⟩ =
     some (.exit 4,⟨[(3,.pv (.aD (vs.map As.pv))),(5,.az 5 0),(18,.own (args.map Ty.pv) 0),(29,.own (us.map Ty.pv) 1),(30,.pv (vI vs.length)),(153,.pv (.bool false))],[(5,sC s)],[],[args.length,us.length]⟩)
 | 0,i,hk,hi,acc,ha,hu=>by
   have:i=vs.length:=by omega
   subst this
   refine .inr ⟨acc,ha,hu,?_⟩
   rw [g389L2e]
   simp [g389B2,sC]
 | k+1,i,hk,hi,acc,ha,hu=>by
   have hi:i<vs.length:=by omega
   obtain ⟨x,hx⟩:=bp hi
   have fx:=hF x (bm hx)
   have hsm:Sm s.sl:=by unfold Sm;rw [I.len];omega
   obtain ⟨r,k1,_,_,_⟩:=c355 hsm I.ok (m:=200) (by omega) fx.ok
   have hb:(acc.length+1)*64≤140737488355328:=by omega
   by_cases hr:(200:Int)<r
   · left
     simp at k1
     rw [g389L2e]
     simp (disch:=omega) [-getElem?_pos,g389B2,kR,sC,hx,hi,k1,hr]
   · obtain ⟨u,b,k2,hu1,hu2⟩:=c358k hsm I.ok I.wf ⟨fx.ok,fx.wf⟩
     have ih:=MD I hm hv hF (args:=args) k (i+1) (by omega) (by omega) (acc++[u]) (by simp;omega) (by
       intro y hy;simp at hy;rcases hy with hy | rfl
       · exact hu y hy
       · exact ⟨hu1,hu2⟩)
     have e1:cl AP g389L2 ⟨[(3,.pv (.aD (vs.map As.pv))),(5,.az 5 0),(18,.own (args.map Ty.pv) 0),(29,.own (acc.map Ty.pv) 1),(30,.pv (vI i))],[(5,sC s)],[],[args.length,acc.length]⟩=cl AP g389L2 ⟨[(3,.pv (.aD (vs.map As.pv))),(5,.az 5 0),(18,.own (args.map Ty.pv) 0),(29,.own ((acc++[u]).map Ty.pv) 1),(30,.pv (vI (i+1:Nat)))],[(5,sC s)],[],[args.length,(acc++[u]).length]⟩:=by
       simp at k1 k2
       conv=>lhs;rw [g389L2e]
       simp (disch:=omega) [-getElem?_pos,g389B2,sC,hx,hi,k1,hr,k2,hb,au]
     rw [e1]
     exact ih
theorem ME {m M:Nat} {s:dK} (I:Inv m M (ei m) s) (hm:m≤1000000) {p3:PV} {args:List Ty} (hv:args.length≤100000) (hF:∀x∈args,Fit (ei m) x) {V:Nat}:∀(k i:Nat),args.length-i=k→i≤args.length→∀acc:List Ty,acc.length≤V+i→V≤100000→(∀u∈acc,FZ u) →
   ∃us:List Ty,us.length≤V+args.length∧(∀u∈us,FZ u)∧acc.length≤us.length∧cl AP g389L3 ⟨[(3,.pv p3),(5,.az 5 0),(18,.own (args.map Ty.pv) 0),(29,.own (acc.map Ty.pv) 1),(33,.pv (vI i))],[(5,sC s)],[],[args.length,acc.length]⟩ =
     some (.exit 6,⟨[(3,.pv p3),(5,.az 5 0),(18,.own (args.map Ty.pv) 0),(29,.own (us.map Ty.pv) 1),(33,.pv (vI args.length)),(181,.pv (.bool false))],[(5,sC s)],[],[args.length,us.length]⟩)
 | 0,i,hk,hi,acc,ha,hV,hu=>by
   have:i=args.length:=by omega
   subst this
   refine ⟨acc,ha,hu,Nat.le_refl _,?_⟩
   rw [g389L3e]
   simp [g389B3,sC]
 | k+1,i,hk,hi,acc,ha,hV,hu=>by
   have hi:i<args.length:=by omega
   obtain ⟨x,hx⟩:=bp hi
   have fx:=hF x (bm hx)
   have hsm:Sm s.sl:=by unfold Sm;rw [I.len];omega
   have hb:(acc.length+1)*64≤140737488355328:=by omega
   obtain ⟨u,b,k2,hu1,hu2⟩:=c358k hsm I.ok I.wf ⟨fx.ok,fx.wf⟩
   obtain ⟨us,q1,q2,q3,e⟩:=ME I hm hv hF (p3:=p3) (V:=V) k (i+1) (by omega) (by omega) (acc++[u]) (by simp;omega) hV (by
       intro y hy;simp at hy;rcases hy with hy | rfl
       · exact hu y hy
       · exact ⟨hu1,hu2⟩)
   refine ⟨us,q1,q2,by simp at q3;omega,?_⟩
   rw [g389L3e] at e ⊢
   simp [sC] at e
   simp at k2
   simp (disch:=omega) [-getElem?_pos,g389B3,sC,hx,hi,k2,hb,au]
   rw [g389L3e]
   simp [e]
theorem Lz {l:List Ty} {t:Ty}:∀w,gS (t.ml l) w→gS t w∨∃x∈l,gS x w:=by
 refine Ty.eE (p:=fun t=>∀w,gS (t.ml l) w→gS t w∨∃x∈l,gS x w) ?_ t
 intro t ih w h
 rw [Ty.mm] at h
 cases e:JY l t with
 | some x=>
   rw [e] at h
   obtain ⟨_,_,_,hx⟩:=np e
   exact .inr ⟨x,bm hx,h⟩
 | none=>
   rw [e] at h
   simp only [Option.getD_none] at h
   generalize hy:(Ty.mk t.kind t.name t.id t.home (t.args.map (Ty.ml l)))=y at h
   cases h with
   | var q=>subst hy;exact .inl (.var q)
   | arg q ha ho=>
     subst hy
     simp only [List.mem_map] at ha
     obtain ⟨a,ha,rfl⟩:=ha
     rcases ih a ha _ ho with h | h
     · exact .inl (.arg q ha h)
     · exact .inr h
theorem PZ {sz τ:Nat} {l:List PV} {k:IntKind} {h:Int} (h0:0≤h) (h1:h≤l.length) (hs:bH sz l=true):cI false sz true false false [.own l τ,.pv (.int k h)]=some (.pv (.aD (l.drop h.toNat))):=by
 simp [cI,dS,dG,h0,h1,hs]
end Go.Ab.Lw
namespace Go.Ab.Lw
open Ev
abbrev Mt:=List (Int×Ty)
def jY:Mt→Int→Option Ty
 | [],_=>none
 | (j,x)::r,i=>if i=j then some x else jY r i
def ot:Mt→Int→Ty→Mt
 | [],i,t=>[(i,t)]
 | (j,x)::r,i,t=>if i=j then (i,t)::r else (j,x)::ot r i t
def mp (m:Mt):List (PV×PV):=m.map fun a=>(vI a.1,a.2.pv)
theorem pU {i j:Int} {t:Ty}:∀{m:Mt},jY (ot m i t) j=if j=i then some t else jY m j
 | []=>by simp [ot,jY]
 | (k,x)::r=>by
   have ih:=pU (i:=i) (j:=j) (t:=t) (m:=r)
   simp only [ot,jY]
   by_cases e:i=k
   · subst e
     by_cases e2:j=i<;>simp [jY,e2]
   · by_cases e2:j=i
     · subst e2;simp [jY,e,ih]
     · have e':¬k=i:=fun h=>e h.symm
       by_cases e3:j=k<;>simp [jY,e,e',e2,e3,ih]
def BK (m:Mt):Prop:=∀i x,jY m i=some x→x.Ok
theorem BK.put {m:Mt} (h:BK m) {t:Ty} (ht:t.Ok) {i:Int}:BK (ot m i t):=by
 intro j x hx
 rw [pU] at hx
 split at hx
 · cases hx;exact ht
 · exact h j x hx
def P0 (p t:Ty):Bool:=decide (p.kind=t.kind) && decide (p.name=t.name) && decide (p.id=t.id) && decide (p.home=t.home) && decide (p.args.length=t.args.length)
end Go.Ab.Lw
namespace Go.Ab.Lw
open Ev
def QV:Ty:=⟨0,[],0,0,[]⟩
def gp (m:Mt) (n:Nat):List Ty:=(List.range n).map fun i:Nat=>(jY m i).getD QV
theorem iw {m:Mt} {n:Nat}:(gp m n).length=n:=by simp [gp]
def rI:Option (List Ty)→List PV
 | some l=>[.aD (l.map Ty.pv),.bool true]
 | none=>[.aD [],.bool false]
end Go.Ab.Lw
namespace Go.Ab.Lw
open Ev
def MF (m:Mt) (n:Nat):List Bool:=(List.range n).map fun i:Nat=>(jY m i).isSome
theorem pV {m:Mt} {n:Nat}:(MF m n).length=n:=by simp [MF]
theorem ou {m:Mt} {n i:Nat} (h:i<n):(gp m n)[i]?=some ((jY m i).getD QV):=by simp [gp,h]
theorem uY {m:Mt} {n i:Nat} (h:i<n):(MF m n)[i]?=some (jY m i).isSome:=by simp [MF,h]
theorem F1 {m:Mt} {n i:Nat} {t:Ty}:gp (ot m i t) n=(gp m n).set i t:=by
 apply List.ext_getElem?
 intro j
 by_cases hj:j<n
 · rw [ou hj,List.getElem?_set,pU]
   by_cases e:i=j
   · subst e;simp [iw,hj]
   · have e':¬(j:Int)=i:=by omega
     simp [e,e',ou hj]
 · rw [List.getElem?_eq_none (by rw [iw];omega),List.getElem?_eq_none (by simp [iw];omega)]
theorem LA {m:Mt} {n i:Nat} {t:Ty}:MF (ot m i t) n=(MF m n).set i true:=by
 apply List.ext_getElem?
 intro j
 by_cases hj:j<n
 · rw [uY hj,List.getElem?_set,pU]
   by_cases e:i=j
   · subst e;simp [pV,hj]
   · have e':¬(j:Int)=i:=by omega
     simp [e,e',uY hj]
 · rw [List.getElem?_eq_none (by rw [pV];omega),List.getElem?_eq_none (by simp [pV];omega)]
theorem tt:∀{l:List Ty} {i:Nat},i≤l.length→(l.flatMap Ty.cl).take (i*5)=(l.take i).flatMap Ty.cl
 | _,0,_=>by simp
 | [],i+1,h=>by simp at h
 | a::r,i+1,h=>by
   have ih:=tt (l:=r) (i:=i) (by simp at h;omega)
   have e:(i+1)*5=a.cl.length+i*5:=by simp [Ty.cl];omega
   rw [List.flatMap_cons,List.take_succ_cons,List.flatMap_cons,e,List.take_length_add_append,ih]
theorem oz:∀{l:List Ty} {i:Nat},i≤l.length→(l.flatMap Ty.cl).drop (i*5)=(l.drop i).flatMap Ty.cl
 | _,0,_=>by simp
 | [],i+1,h=>by simp at h
 | a::r,i+1,h=>by
   have ih:=oz (l:=r) (i:=i) (by simp at h;omega)
   have e:(i+1)*5=a.cl.length+i*5:=by simp [Ty.cl];omega
   rw [List.flatMap_cons,List.drop_succ_cons,e,List.drop_length_add_append,ih]
theorem LB {l:List Ty} {i:Nat} {t:Ty} (h:i<l.length):bu (jc l 0) (i*5) t.cl=jc (l.set i t) 0:=by
 have e0:∀l:List Ty,jc l 0=l.flatMap Ty.cl:=fun l=>by simp [jc]
 rw [aJ,e0,e0,tt (by omega)]
 have e1:i*5+t.cl.length=(i+1)*5:=by simp [Ty.cl];omega
 rw [e1,oz (by omega),List.set_eq_take_append_cons_drop,if_pos h]
 simp
theorem LC {l:List Ty} {i:Nat} {x:Ty} (h:l[i]?=some x):((jc l 0).drop (i*5)).take 5=x.cl:=by
 have hi:i<l.length:=(List.getElem?_eq_some_iff.1 h).1
 have e0:jc l 0=l.flatMap Ty.cl:=by simp [jc]
 rw [e0,oz (by omega),bL h,List.flatMap_cons]
 have:(5:Nat)=x.cl.length:=by simp [Ty.cl]
 rw [this,List.take_left]
mutual
noncomputable def Ty.rt (t:Ty) (m:Mt):Ty→Bool×Mt
 | ⟨k,n,i,h,as⟩=>if k=2 then (match jY m i with | some x=>(decide (x=t),m) | none=>(true,ot m i t)) else if P0 ⟨k,n,i,h,as⟩ t=true then Ty.Cu t.args m as else (false,m)
noncomputable def Ty.Cu (ts:List Ty) (m:Mt):List Ty→Bool×Mt
 | []=>(true,m)
 | p::ps=>match ts with
   | []=>(true,m)
   | t::ts=>if (Ty.rt t m p).1=true then Ty.Cu ts (Ty.rt t m p).2 ps else (false,(Ty.rt t m p).2)
end
theorem Ty.MG (t:Ty) (m:Mt) (p:Ty):Ty.rt t m p=if p.kind=2 then (match jY m p.id with | some x=>(decide (x=t),m) | none=>(true,ot m p.id t)) else if P0 p t=true then Ty.Cu t.args m p.args else (false,m):=by
 cases p;simp only [Ty.rt]
end Go.Ab.Lw
namespace Go.Ab.Lw
open Ev
def yt (m:Mt) (n:Nat):List AV:=(MF m n).map fun b=>.pv (.bool b)
theorem uZ {m:Mt} {n:Nat}:(yt m n).length=n:=by simp [yt,pV]
theorem LD {m:Mt} {n i:Nat} (h:i<n):(yt m n)[i]?=some (.pv (.bool (jY m i).isSome)):=by simp [yt,uY h]
theorem BL {m:Mt} {n:Nat}:∀v∈yt m n,∃p,v=AV.pv p:=by
 intro v hv
 simp only [yt,List.mem_map] at hv
 obtain ⟨b,_,rfl⟩:=hv
 exact ⟨_,rfl⟩
theorem yb {m:Mt} {n:Nat}:cQ (yt m n)=false:=dh BL
theorem LF {m:Mt} {n i:Nat} {t:Ty} (h:i<n):bu (yt m n) (i*1) [.pv (.bool true)]=yt (ot m i t) n:=by
 have hl:i<(yt m n).length:=by rw [uZ];exact h
 rw [aJ]
 have e:yt (ot m i t) n=(yt m n).set i (.pv (.bool true)):=by
   unfold yt
   rw [LA,List.map_set]
 rw [e,List.set_eq_take_append_cons_drop,if_pos hl]
 simp
theorem LG {m:Mt} {n i:Nat} {t:Ty} (h:i<n):bu (jc (gp m n) 0) (i*5) t.cl=jc (gp (ot m i t) n) 0:=by
 rw [F1];exact LB (by rw [iw];exact h)
def l6 (m:Mt) (n:Nat):Sh:=[some (jc (gp m n) 0),some (yt m n)]
theorem d6 {m:Mt} {n:Nat}:a7 (l6 m n):=a7.app (a7.one uM) (a7.one BL)
theorem yc {m m':Mt} {n n':Nat}:(l6 m' n').take (l6 m n).length=l6 m' n':=rfl
def LH (n:Nat) (p:Ty):Prop:=∀x∈p.nodes,x.kind=2→0≤x.id∧x.id<n
theorem LH.fM {n:Nat} {p:Ty} (h:LH n p):∀y∈p.args,LH n y:=by
 intro y hy x hx
 refine h x ?_
 rw [Ty.bl p]
 simp only [List.mem_cons,List.mem_flatMap]
 exact .inr ⟨y,hy,hx⟩
theorem Jw:∀{ps ts:List Ty} {m:Mt},(∀p∈ps,∀t∈ts,∀m,BK m→BK (Ty.rt t m p).2)→BK m→BK (Ty.Cu ts m ps).2
 | [],ts,m,_,h=>by simpa [Ty.Cu] using h
 | p::ps,[],m,_,h=>by simpa [Ty.Cu] using h
 | p::ps,t::ts,m,hp,h=>by
   have h1:=hp p (by simp) t (by simp) m h
   simp only [Ty.Cu]
   split
   · exact Jw (fun q hq u hu=>hp q (by simp [hq]) u (by simp [hu])) h1
   · exact h1
theorem P1 {p:Ty}:∀{t:Ty},t.Ok→∀m,BK m→BK (Ty.rt t m p).2:=by
 refine Ty.eE (p:=fun p=>∀{t:Ty},t.Ok→∀m,BK m→BK (Ty.rt t m p).2) ?_ p
 intro p ih t ht m hm
 rw [Ty.MG]
 split
 · split
   · exact hm
   · exact hm.put ht
 · split
   · exact Jw (fun q hq u hu m hm=>ih q hq (ht.fM u hu) m hm) hm
   · exact hm
theorem P2 {N:Nat} {p t:Ty} (hS:Sm t.args) (hl:p.args.length=t.args.length) (h:∀x∈p.args,∀y∈t.args,∀m,BK m→(aP AP).i 240 [.pv x.pv,.pv y.pv,.bq 0 5 N true,.bq 1 1 N false] (l6 m N) []=some ([.pv (.bool (Ty.rt y m x).1)],l6 (Ty.rt y m x).2 N,[]))
   (hO:t.Ok):∀(n i:Nat),t.args.length-i=n→i≤t.args.length→∀m,BK m →
   cl AP g240L0 ⟨[(2,.bq 0 5 N true),(3,.bq 1 1 N false),(4,.az 4 0),(5,.az 5 0),(9,.pv (vI i))],[(4,[.pv (vI p.kind),.pv (.str p.name),.pv (vI p.id),.pv (vI p.home),.pv (.aD (p.args.map Ty.pv))]),(5,[.pv (vI t.kind),.pv (.str t.name),.pv (vI t.id),.pv (vI t.home),.pv (.aD (t.args.map Ty.pv))])],l6 m N,[]⟩ =
     if (Ty.Cu (t.args.drop i) m (p.args.drop i)).1=true then some (.exit 0,⟨[(2,.bq 0 5 N true),(3,.bq 1 1 N false),(4,.az 4 0),(5,.az 5 0),(9,.pv (vI t.args.length)),(80,.pv (.bool false))],[(4,[.pv (vI p.kind),.pv (.str p.name),.pv (vI p.id),.pv (vI p.home),.pv (.aD (p.args.map Ty.pv))]),(5,[.pv (vI t.kind),.pv (.str t.name),.pv (vI t.id),.pv (vI t.home),.pv (.aD (t.args.map Ty.pv))])],l6 (Ty.Cu (t.args.drop i) m (p.args.drop i)).2 N,[]⟩)
     else some (.ret,⟨[(8,.pv (.bool false))],[],l6 (Ty.Cu (t.args.drop i) m (p.args.drop i)).2 N,[]⟩)
 | 0,i,hn,hi,m,hm=>by
   have:i=t.args.length:=by omega
   subst this
   have e1:p.args.drop t.args.length=[]:=by rw [←hl];simp
   have h1:=(d6 (m:=m) (n:=N)).norm
   rw [g240L0e,e1]
   simp [g240B0,Ty.Cu,h1,hl]
 | n+1,i,hn,hi,m,hm=>by
   have hi:i<t.args.length:=by omega
   obtain ⟨y,hy⟩:=bp hi
   obtain ⟨x,hx⟩:=bp (l:=p.args) (i:=i) (by omega)
   have hix:i<p.args.length:=by omega
   unfold Sm at hS
   have h1:=(d6 (m:=m) (n:=N)).norm
   have h2:=(d6 (m:=(Ty.rt y m x).2) (n:=N)).norm
   have h3:=(d6 (m:=(Ty.rt y m x).2) (n:=N)).shift
   have k:=h x (bm hx) y (bm hy) m hm
   have ih:=P2 hS hl h hO n (i+1) (by omega) (by omega) (Ty.rt y m x).2 (P1 (hO.fM y (bm hy)) m hm)
   rw [g240L0e] at ih ⊢
   rw [bL hx,bL hy]
   simp only [Ty.Cu]
   simp [h2] at k ih
   by_cases e:(Ty.rt y m x).1=true
   · rw [e] at k
     simp only [if_pos e]
     simp (disch:=omega) [-getElem?_pos,g240B0,hx,hy,hi,hix,k,au,h1,h2,h3]
     rw [g240L0e]
     simp [ih,h2]
   · have e':(Ty.rt y m x).1=false:=by simpa using e
     rw [e'] at k
     simp only [if_neg e]
     simp (disch:=omega) [-getElem?_pos,g240B0,hx,hy,hi,hix,k,au,h1,h2,h3]
theorem c240 {N:Nat} (hN:N<1099511627776) {p:Ty}:∀{t:Ty},t.Ok→LH N p→∀m,BK m→(aP AP).i 240 [.pv p.pv,.pv t.pv,.bq 0 5 N true,.bq 1 1 N false] (l6 m N) []=some ([.pv (.bool (Ty.rt t m p).1)],l6 (Ty.rt t m p).2 N,[]):=by
 refine Ty.eE (p:=fun p=>∀{t:Ty},t.Ok→LH N p→∀m,BK m→(aP AP).i 240 [.pv p.pv,.pv t.pv,.bq 0 5 N true,.bq 1 1 N false] (l6 m N) []=some ([.pv (.bool (Ty.rt t m p).1)],l6 (Ty.rt t m p).2 N,[])) ?_ p
 intro p ih t ht hR m hm
 have h1:=(d6 (m:=m) (n:=N)).norm
 have h2:=(d6 (m:=m) (n:=N)).shift
 rw [aK (af:=g240) rfl (by simp [g240]),Ty.MG]
 by_cases e2:p.kind=2
 · obtain ⟨i0,i1⟩:=hR p (by rw [Ty.bl];simp) e2
   obtain ⟨k,hk,hkN⟩:=jS i0 i1
   have kl:=LD (m:=m) hkN
   have kl2:=uZ (m:=m) (n:=N)
   have al:=xG (d:=gp m N) (m:=0)
   rw [iw] at al
   have fl:=ou (m:=m) hkN
   have gl:=LC fl
   have hlen:k*5+5≤(jc (gp m N) 0).length:=by omega
   have hk1:k+1≤N:=hkN
   rw [if_pos e2,hk]
   cases hf:jY m k with
   | none=>
     rw [hf] at kl
     have s1:=LG (m:=m) (t:=t) hkN
     have s2:=LF (m:=m) (t:=t) hkN
     have h3:=(d6 (m:=ot m k t) (n:=N)).norm
     simp [l6,Ty.cl] at h1 h2 h3 kl s1 s2
     simp (disch:=omega) [-getElem?_pos,g240,e2,hk,hkN,hk1,l6,h1,h2,h3,kl,kl2,yb,s1,s2,hlen]
   | some x=>
     rw [hf] at kl gl
     have q:=c20 (a:=x) (b:=t) (hm _ _ hf)
     simp [l6,Ty.cl] at h1 h2 kl gl q
     simp (disch:=omega) [-getElem?_pos,g240,e2,hk,hkN,hk1,l6,h1,h2,kl,kl2,yb,gl,hlen,q]
 · rw [if_neg e2]
   by_cases e:P0 p t=true
   · rw [if_pos e]
     simp [P0] at e
     obtain ⟨⟨⟨⟨e1,e2'⟩,e3⟩,e4⟩,e5⟩:=e
     have h:=P2 (N:=N) (p:=p) (t:=t) ht.sm e5 (fun x hx y hy m hm=>ih x hx (ht.fM y hy) (hR.fM x hx) m hm) ht _ 0 rfl (by omega) m hm
     have h3:=(d6 (m:=(Ty.Cu t.args m p.args).2) (n:=N)).norm
     rw [g240L0e] at h
     have e2t:¬t.kind=2:=by rw [←e1];exact e2
     simp [h1,e1,e2',e3,e4] at h
     cases e6:(Ty.Cu t.args m p.args).1 with
     | true=>simp [e6] at h;simp [g240,e2t,e1,e2',e3,e4,e5,h1,h2,h3,yc,g240L0e,h]
     | false=>simp [e6] at h;simp [g240,e2t,e1,e2',e3,e4,e5,h1,h2,h3,yc,g240L0e,h]
   · rw [if_neg e]
     have:¬(p.kind=t.kind∧p.name=t.name∧p.id=t.id∧p.home=t.home∧p.args.length=t.args.length):=by
       rintro ⟨h1,h2,h3,h4,h5⟩;apply e;simp [P0,h1,h2,h3,h4,h5]
     by_cases q1:p.kind=t.kind
     · have e2':¬t.kind=2:=by rw [←q1];exact e2
       by_cases q2:p.name=t.name
       · by_cases q3:p.id=t.id
         · by_cases q4:p.home=t.home
           · have h5:¬p.args.length=t.args.length:=fun h5=>this ⟨q1,q2,q3,q4,h5⟩
             have h5':¬(p.args.length:Int)=t.args.length:=by omega
             simp [g240,e2',q1,q2,q3,q4,h5',h1,h2]
           · simp [g240,e2',q1,q2,q3,q4,h1,h2]
         · simp [g240,e2',q1,q2,q3,h1,h2]
       · simp [g240,e2',q1,q2,h1,h2]
     · simp [g240,e2,q1,h1,h2]
end Go.Ab.Lw
namespace Go.Ab.Lw
open Ev
theorem MH {n:Nat}:jc (gp [] n) 0=(List.replicate n [.pv (vI 0),.pv (.str []),.pv (vI 0),.pv (vI 0),.pv (.aD [])]).flatten:=by
 have e:gp [] n=List.replicate n QV:=by
   exact List.eq_replicate_iff.2 ⟨by simp [gp],by intro b hb;simp [gp,jY] at hb;exact hb.2.symm⟩
 rw [e]
 simp only [jc,List.replicate_zero,List.flatten_nil,List.append_nil,List.flatMap_def,List.map_replicate]
 rfl
theorem Rb {n:Nat}:yt [] n=List.replicate n (.pv (.bool false)):=List.eq_replicate_iff.2 ⟨uZ,by intro b hb;simp [yt,MF,jY] at hb;exact hb.2.symm⟩
end Go.Ab.Lw
namespace Go.Ab.Lw
open Ev
theorem sk {s:List As} (hs:∀a∈s,a.ty.args=[]) {t:Ty} (hW:t.Wf):(t.sub s).nodes.length=t.nodes.length:=by
 revert hW
 refine Ty.eE (p:=fun t=>t.Wf→(t.sub s).nodes.length=t.nodes.length) ?_ t
 intro t ih hW
 rw [Ty.sub_eq]
 by_cases e:t.kind=1
 · rw [if_pos e]
   have ea:=hW.var e
   cases hf:ke s t.id with
   | none=>rfl
   | some u=>
     obtain ⟨a,ha,rfl⟩:=ly hf
     rw [Option.getD_some,Ty.bl,Ty.bl t,hs a ha,ea];simp
 · rw [if_neg e,Ty.bl,Ty.bl t]
   simp only [List.length_cons,List.flatMap_map]
   have key:∀(l:List Ty),(∀y∈l,y∈t.args)→(l.flatMap fun y=>(y.sub s).nodes).length=(l.flatMap Ty.nodes).length:=by
     intro l
     induction l with
     | nil=>intro _;rfl
     | cons a r ihr=>
       intro hl
       simp only [List.flatMap_cons,List.length_append]
       rw [ih a (hl a (by simp)) (hW.fM a (hl a (by simp))),ihr (fun y hy=>hl y (by simp [hy]))]
   rw [key t.args (fun _ h=>h)]
end Go.Ab.Lw
namespace Go.Ab.Lw
open Ev
noncomputable def Jy (N:Nat) (p t:Ty):Option (List Ty):=if (Ty.rt t [] p).1=true then some (gp (Ty.rt t [] p).2 N) else none
theorem c238 {N:Nat} (hN:N<1000000) {p t:Ty} (ht:t.Ok) (hR:LH N p):(aP AP).p 238 [(As.mk N p).pv,t.pv]=some (rI (Jy N p t)):=by
 have k:=c240 (N:=N) (by omega) ht hR [] (by intro i x h;cases h)
 rw [aq (af:=g238) rfl rfl (by decide)]
 unfold Jy
 generalize hm:(Ty.rt t [] p).2=m at k ⊢
 have hfr:=IF (d:=gp m N)
 have hle:=xG (d:=gp m N) (m:=0)
 rw [iw] at hfr hle
 have h1:=(d6 (m:=[]) (n:=N)).norm
 have h2:=(d6 (m:=m) (n:=N)).norm
 have h3:=(d6 (m:=m) (n:=N)).shift
 have h4:=(a7.one (uM (d:=gp [] N) (m:=0))).norm
 have b1:(N:Int)≤9223372036854775807:=by omega
 have b2:(N:Int)*64≤140737488355328:=by omega
 have b3:(N:Int)≤140737488355328:=by omega
 have e0:l6 [] N=[some ((List.replicate N [.pv (vI 0),.pv (.str []),.pv (vI 0),.pv (vI 0),.pv (.aD [])]).flatten),some (List.replicate N (.pv (.bool false)))]:=by unfold l6;rw [MH,Rb]
 rw [e0] at k h1
 rw [MH] at h4
 have h5:=(a7.one (BL (m:=[]) (n:=N))).norm
 rw [Rb] at h5
 simp [l6] at hfr hle k h1 h2 h3 h4 h5
 cases e:(Ty.rt t [] p).1 with
 | true=>
   rw [e] at k
   simp (disch:=omega) [g238,b1,b2,b3,h1,h2,h3,h4,h5,k,hfr,hle,rI]
 | false=>
   rw [e] at k
   simp (disch:=omega) [g238,b1,b2,b3,h1,h2,h3,h4,h5,k,rI]
end Go.Ab.Lw
namespace Go.Ab.Lw
open Ev
theorem Cv:∀{l:List Int} {i:Nat} {v:Int} {x:Ty},ke (gC i l) v=some x→∃k:Nat,x=cd k
 | [],i,v,x,h=>by simp [gC,ke] at h
 | a::r,i,v,x,h=>by
   simp only [gC,ke] at h
   split at h
   · cases h;exact ⟨i,rfl⟩
   · exact Cv h
theorem tu {l:List Int} {i:Nat}:∀a∈gC i l,a.ty.args=[]:=by
 induction l generalizing i with
 | nil=>simp [gC]
 | cons v r ih=>
   intro a ha
   simp only [gC,List.mem_cons] at ha
   rcases ha with rfl | ha
   · rfl
   · exact ih a ha
theorem LI {l:List Int} {i:Nat}:∀a∈gC i l,a.ty.Ok:=fun a ha=>cO (tu a ha)
theorem LJ {l:List Int} {u:Ty} (h:FZ u):FZ (u.sub (gC 0 l)):=by
 refine ⟨⟨Bx LI h.1.1,?_⟩,?_⟩
 · refine BE (K:=KS) h.1.2 (fun k q _=>q) ?_ (.inl (by simp))
   intro i x hx
   obtain ⟨k,rfl⟩:=Cv hx
   exact rJ
 · rw [sk tu h.1.2.wf]
   exact h.2
theorem Jz {l:List Ty} {k:Int} (h:∀u∈l,FZ u):(l.flatMap (Ty.eJ k)).length≤l.length*4000:=by
 induction l with
 | nil=>simp
 | cons a r ih=>
   have h1:=(h a (by simp)).2
   have h2:=nq (k:=k) (t:=a)
   have h3:=ih fun u hu=>h u (by simp [hu])
   simp only [List.flatMap_cons,List.length_append,List.length_cons]
   omega
theorem c395k {l:List Ty} (hl:l.length≤1000000) (h:∀u∈l,FZ u):(aP AP).i 395 [.pv (.aD (l.map Ty.pv))] [] []=some ([.own ((l.map (Ty.sub (gC 0 (vars l)))).map Ty.pv) 0],[],[l.length]):=by
 have hlen:=Jz (k:=1) h
 refine c395i (S:=l.flatMap (Ty.eJ 1)) (by omega) ?_ (by unfold Sm;omega) ?_
 · intro x hx
   simp only [List.mem_flatMap] at hx
   obtain ⟨u,_,hx⟩:=hx
   exact cO (kP x hx)
 · intro t ht
   refine ⟨(h t ht).1.1,(h t ht).1.2.wf,?_⟩
   intro x hx
   simp only [List.mem_flatMap]
   exact ⟨t,ht,hx⟩
structure Qy (n M:Nat) (s:dK) (c:Sc) (K:Nat) (g:Ty) (vs:List As):Prop where
 inv:Inv n M (ei n) s
 hn:n≤6000
 hm:M≤1000000
 id:c.id=K
 k:K≤100
 ok:c.ty.Ok
 kn:c.ty.Kn KV
 P3:LH K c.ty
 lC:∀w,gS c.ty w→w∈ei n
 g:Fit (ei n) g
 Rp:∀x∈vs,Fit (ei n) x.ty
 vl:vs.length≤5000
theorem c389 {n M:Nat} {s:dK} {c:Sc} {K:Nat} {g:Ty} {vs:List As} (E:Qy n M s c K g vs) {N:Nat} (hN:N≤10):∃(l1 l2:List Ty) (b:Bool),
   (aP AP).p 389 [s.pv,c.pv,g.pv,.aD (vs.map As.pv),vI N]=some [.aD (l1.map Ty.pv),.aD (l2.map Ty.pv),.bool b]∧(∀u∈l1++l2,FZ u)∧l1.length≤6000∧l2.length≤10:=by
 have h0:=MA E.inv E.id (by have:=E.hn;have:=E.k;omega) (by have:=E.hm;omega) (g:=g) (p3:=.aD (vs.map As.pv)) (p4:=vI N) K 0 (by omega) (by omega) [] rfl
 have I1:=lE E.inv K
 have hnk:n+K≤6100:=by have:=E.hn;have:=E.k;omega
 have hM1:M+K*(2*(n+K)+4)≤5000000:=by
   have:K*(2*(n+K)+4)≤100*12204:=Nat.mul_le_mul E.k (by omega)
   have:=E.hm
   omega
 have e0:nv s 0=s:=rfl
 rw [e0] at h0
 have hin:([]++(List.range' 0 (K-0)).map fun j=>cd (n+j:Nat))=(List.range K).map fun j=>cd (n+j:Nat):=by rw [List.nil_append,Nat.sub_zero,List.range_eq_range']
 rw [hin] at h0
 have hiv:∀x∈(List.range K).map (fun j=>cd (n+j:Nat)),∃j:Nat,j<K∧x=cd (n+j:Nat):=by
   intro x hx
   simp only [List.mem_map,List.mem_range] at hx
   obtain ⟨j,hj,rfl⟩:=hx
   exact ⟨j,hj,rfl⟩
 have hil:((List.range K).map (fun j=>cd (n+j:Nat))).length=K:=by simp
 generalize (List.range K).map (fun j=>cd (n+j:Nat))=ins at *
 have hii:∀x∈ins,Fit (ei (n+K)) x:=by
   intro x hx
   obtain ⟨j,hj,rfl⟩:=hiv x hx
   exact nA (er.2 (by omega))
 have k1:=c48 (s:=ins) (by unfold Sm;omega) E.ok
 have mono:=tq (n:=n) (m:=n+K) (by omega)
 have W:Fit (ei (n+K)) (c.ty.ml ins):=by
   refine ⟨Jl (fun x hx=>(hii x hx).ok) E.ok,Jm E.kn (by simp only [KV,KS];omega) (fun x hx=>(hii x hx).wf) (fun y hy hk=>by have:=E.P3 y hy hk;omega),?_⟩
   intro w ho
   rcases Lz w ho with h | ⟨x,hx,h⟩
   · exact mono w (E.lC w h)
   · exact (hii x hx).lC w h
 have X:PX (n+K) (M+K*(2*(n+K)+4)) (nv s K) (c.ty.ml ins) (c.ty.ml ins) g [] vs:=⟨I1,W,W,E.g.gB mono,by simp,fun x hx=>(E.Rp x hx).gB mono⟩
 generalize c.ty.ml ins=w at *
 generalize nv s K=s1 at *
 have hpv:c.pv=.agg [vI c.id,vI c.ty.kind,.str c.ty.name,vI c.ty.id,vI c.ty.home,.aD (c.ty.args.map Ty.pv)]:=rfl
 have hK:=E.id
 rw [g389L0e] at h0
 simp [sC,x_,tC,hK] at h0 k1
 have bad:∀r,(aP AP).p 389 [s.pv,c.pv,g.pv,.aD (vs.map As.pv),vI N]=some [.aD [],.aD [],.bool false]→r=r→∃(l1 l2:List Ty) (b:Bool),
     (aP AP).p 389 [s.pv,c.pv,g.pv,.aD (vs.map As.pv),vI N]=some [.aD (l1.map Ty.pv),.aD (l2.map Ty.pv),.bool b]∧(∀u∈l1++l2,FZ u)∧l1.length≤6000∧l2.length≤10:=fun (_:Nat) h _=>⟨[],[],false,h,by simp,by simp,by simp⟩
 rcases MC (vs:=vs) (N:=N) (by omega) N (n+K) _ s1 w [] (by simp) (by simp) X (by omega) (by omega) with ⟨q,h1⟩ | ⟨m,M',s2,t2,args,hm,hM,hal,E2,h1⟩
 · refine bad 0 ?_ rfl
   rw [g389L1e] at h1
   simp [kb,kR,sC,tC] at h1
   rw [aq (af:=g389) rfl rfl (by decide)]
   simp [g389,hK,g389L0e,h0,k1,g389L1e,h1]
 · have hsl:=E2.inv.len
   have hsm:Sm s2.sl:=by unfold Sm;omega
   have k2:=c386 hsm (t:=t2)
   have F:=E2.t.wk E2.inv
   change (aP AP).p 386 [s2.pv,t2.pv]=some [(jU s2.sl t2).pv] at k2
   generalize jU s2.sl t2=x at *
   obtain ⟨a,b,cc,k3,_⟩:=c194f F
   rw [g389L1e] at h1
   simp [kb,sC,tC] at h1 k2 k3
   cases cc with
   | true=>
     refine bad 0 ?_ rfl
     rw [aq (af:=g389) rfl rfl (by decide)]
     simp [g389,hK,g389L0e,h0,k1,g389L1e,h1,k2,k3]
   | false=>
     have nl:∀w∈ei m,w<m:=fun w h=>(er.1 h).2
     obtain ⟨s3,k4,I3⟩:=c394 (NU (by omega) (by omega)) nl E2.inv F
     obtain ⟨s4,k5,I4⟩:=c394 (NU (by omega) (by omega)) nl I3 E2.g
     obtain ⟨s5,e,k6,I5⟩:=c385 (NU (by omega) (by omega)) I4 F E2.g
     have hsm5:Sm s5.sl:=by unfold Sm;rw [I5.len];omega
     obtain ⟨r,k7,_,_,_⟩:=c355 hsm5 I5.ok (m:=200) (by omega) E2.w.ok
     simp at k4 k5 k6 k7
     by_cases he:e=0
     · subst he
       by_cases hr:(200:Int)<r
       · refine bad 0 ?_ rfl
         rw [aq (af:=g389) rfl rfl (by decide)]
         simp [g389,hK,g389L0e,h0,k1,g389L1e,h1,k2,k3,k4,k5,k6,k7,hr]
       · rcases MD I5 (by omega) (vs:=vs) (by have:=E.vl;omega) E2.vs (args:=args) _ 0 rfl (by omega) [] rfl (by simp) with ⟨q,h2⟩ | ⟨us,hul,huo,h2⟩
         · refine bad 0 ?_ rfl
           rw [g389L2e] at h2
           simp [kR,sC] at h2
           rw [aq (af:=g389) rfl rfl (by decide)]
           simp [g389,hK,g389L0e,h0,k1,g389L1e,h1,k2,k3,k4,k5,k6,k7,hr,g389L2e,h2]
         · obtain ⟨vs2,g1,g2,g3,h3⟩:=ME I5 (by omega) (p3:=.aD (vs.map As.pv)) (args:=args) (by omega) E2.args (V:=vs.length) _ 0 rfl (by omega) us (by omega) (by have:=E.vl;omega) huo
           have hvl:=E.vl
           have k8:=c395k (l:=vs2) (by omega) g2
           have hl3:(vs2.map (Ty.sub (gC 0 (vars vs2)))).length=vs2.length:=by simp
           have ho3:∀u∈vs2.map (Ty.sub (gC 0 (vars vs2))),FZ u:=by
             intro u hu
             simp only [List.mem_map] at hu
             obtain ⟨y,hy,rfl⟩:=hu
             exact LJ (g2 y hy)
           generalize vs2.map (Ty.sub (gC 0 (vars vs2)))=l at *
           refine ⟨l.take vs.length,l.drop vs.length,true,?_,by rw [List.take_append_drop];exact ho3,by simp;omega,by simp;omega⟩
           have q1:=Pq (sz:=5) (τ:=2) (l:=l.map Ty.pv) (k:=.i64) (h:=(vs.length:Int)) (by omega) (by simp;omega)
           have q2:=PZ (sz:=5) (τ:=2) (l:=l.map Ty.pv) (k:=.i64) (h:=(vs.length:Int)) (by omega) (by simp;omega) (Ce.head l)
           rw [g389L2e] at h2
           rw [g389L3e] at h3
           simp [sC] at h2 h3
           simp at k8 q1 q2
           rw [aq (af:=g389) rfl rfl (by decide)]
           simp [g389,hK,g389L0e,h0,k1,g389L1e,h1,k2,k3,k4,k5,k6,k7,hr,g389L2e,h2,g389L3e,h3,k8,q1,q2]
     · refine bad 0 ?_ rfl
       rw [aq (af:=g389) rfl rfl (by decide)]
       simp [g389,hK,g389L0e,h0,k1,g389L1e,h1,k2,k3,k4,k5,k6,he]
end Go.Ab.Lw
namespace Go.Ab.Lw
open Ev
structure Hd where
 name:bS
 gq:Bool
 args:List Ty
 types:List Ty
def Hd.pv (h:Hd):PV:=.agg [.str h.name,.bool h.gq,.aD (h.args.map Ty.pv),.aD (h.types.map Ty.pv)]
@[simp] theorem Hd.kI (h:Hd):h.pv=.agg [.str h.name,.bool h.gq,.aD (h.args.map Ty.pv),.aD (h.types.map Ty.pv)]:=rfl
theorem JA:El Hd.pv 4 true:=⟨fun _=>rfl,fun _=>rfl⟩
@[simp] theorem Ot {l:List Hd}:bH 4 (l.map Hd.pv)=true:=JA.head l
def rL (h:Hd):Prop:=h.args.length≤10∧∀u∈h.args,FZ u
def hC (nm:bS) (cn:Bool):List AV:=[.pv (.str nm),.pv (.bool cn),.pv (.aD []),.pv (.aD [])]
theorem NY {n M:Nat} {s:dK} {c:Sc} {K:Nat} {g:Ty} {vs:List As} (E:Qy n M s c K g vs) {nm:bS} {cn:Bool}:∀(k i:Nat),4-i=k→i≤4→∀acc:List Hd,acc.length≤i→(∀h∈acc,rL h) →
   ∃hs:List Hd,hs.length≤4∧(∀h∈hs,rL h)∧cl AP g378L0 ⟨[(3,.pv (.aD (vs.map As.pv))),(4,.pv (vI 3)),(6,.az 6 0),(7,.az 7 0),(8,.az 8 0),(11,.az 11 0),(13,.own (acc.map Hd.pv) 0),(14,.pv (vI i))],[(6,sC s),(7,x_ c),(8,tC g),(11,hC nm cn)],[],[acc.length]⟩ =
     some (.exit 0,⟨[(3,.pv (.aD (vs.map As.pv))),(4,.pv (vI 3)),(6,.az 6 0),(7,.az 7 0),(8,.az 8 0),(11,.az 11 0),(13,.own (hs.map Hd.pv) 0),(14,.pv (vI 4)),(21,.pv (.bool false))],[(6,sC s),(7,x_ c),(8,tC g),(11,hC nm cn)],[],[hs.length]⟩)
 | 0,i,hk,hi,acc,ha,ho=>by
   have:i=4:=by omega
   subst this
   refine ⟨acc,ha,ho,?_⟩
   rw [g378L0e]
   simp [g378B0,sC,x_,tC,hC]
 | k+1,i,hk,hi,acc,ha,ho=>by
   have hi:i<4:=by omega
   have hi3:(i:Int)≤3:=by omega
   obtain ⟨l1,l2,b,e,hO,n1,n2⟩:=c389 E (N:=i) (by omega)
   simp at e
   cases b with
   | false=>
     obtain ⟨hs,h1,h2,e'⟩:=NY E (nm:=nm) (cn:=cn) k (i+1) (by omega) (by omega) acc (by omega) ho
     refine ⟨hs,h1,h2,?_⟩
     rw [g378L0e] at e' ⊢
     simp [sC,x_,tC,hC] at e'
     simp (disch:=omega) [-getElem?_pos,g378B0,sC,x_,tC,hC,hi3,e,au]
     rw [g378L0e]
     simp [e']
   | true=>
     have hb1:l1.length*64≤140737488355328:=by omega
     have hb2:l2.length*64≤140737488355328:=by omega
     have hb3:(acc.length+1)*72≤140737488355328:=by omega
     have hh1:=Ce.head l1
     have hh2:=Ce.head l2
     obtain ⟨hs,h1,h2,e'⟩:=NY E (nm:=nm) (cn:=cn) k (i+1) (by omega) (by omega) (acc++[⟨nm,cn,l2,l1⟩]) (by simp;omega) (by
       intro h hh;simp at hh;rcases hh with hh | rfl
       · exact ho h hh
       · exact ⟨n2,fun u hu=>hO u (by simp [hu])⟩)
     refine ⟨hs,h1,h2,?_⟩
     rw [g378L0e] at e' ⊢
     simp [sC,x_,tC,hC] at e'
     by_cases z1:l1=[]
     · by_cases z2:l2=[]
       · subst z1;subst z2
         simp at e e'
         simp (disch:=omega) [-getElem?_pos,g378B0,sC,x_,tC,hC,hi3,e,au,hb3]
         rw [g378L0e]
         simp [e']
       · subst z1
         simp at e e'
         simp (disch:=omega) [-getElem?_pos,g378B0,sC,x_,tC,hC,hi3,e,au,hb2,hb3,hh2,z2]
         rw [g378L0e]
         simp [e']
     · by_cases z2:l2=[]
       · subst z2
         simp at e e'
         simp (disch:=omega) [-getElem?_pos,g378B0,sC,x_,tC,hC,hi3,e,au,hb1,hb3,hh1,z1]
         rw [g378L0e]
         simp [e']
       · simp (disch:=omega) [-getElem?_pos,g378B0,sC,x_,tC,hC,hi3,e,au,hb1,hb2,hb3,hh1,hh2,z1,z2]
         rw [g378L0e]
         simp [e']
theorem c378 {n M:Nat} {s:dK} {c:Sc} {K:Nat} {g:Ty} {vs:List As} (E:Qy n M s c K g vs) {nm:bS} {cn:Bool}:∃hs:List Hd,hs.length≤4∧(∀h∈hs,rL h) ∧
   (aP AP).p 378 [s.pv,c.pv,g.pv,.aD (vs.map As.pv),vI 3,.agg [.str nm,.bool cn,.aD [],.aD []]]=some [.aD (hs.map Hd.pv)]:=by
 obtain ⟨hs,h1,h2,e⟩:=NY E (nm:=nm) (cn:=cn) _ 0 rfl (by omega) [] (by simp) (by simp)
 refine ⟨hs,h1,h2,?_⟩
 rw [aq (af:=g378) rfl rfl (by decide)]
 rw [g378L0e] at e
 simp [sC,x_,tC,hC] at e
 simp [g378,g378L0e,e]
end Go.Ab.Lw
namespace Go.Ab.Lw
open Ev
theorem F3 {t:Ty}:∀y∈t.args,∀v∈y.nodes,v∈t.nodes:=by
 intro y hy v hv
 rw [Ty.bl]
 simp only [List.mem_cons,List.mem_flatMap]
 exact .inr ⟨y,hy,hv⟩
theorem Kn.yd {K:Int→Prop} (t:Ty):(∀y∈t.nodes,y.kind≠4→K y.kind∧y.args=[])→t.Kn K:=by
 refine Ty.eE (p:=fun t=>(∀y∈t.nodes,y.kind≠4→K y.kind∧y.args=[])→t.Kn K) ?_ t
 intro t ih h
 refine .mk (h t (by rw [Ty.bl];simp)) fun x hx=>ih x hx fun y hy=>h y (F3 x hx y hy)
theorem pr (t:Ty):(∀y∈t.nodes,y.args.length≤100)→t.Ok:=by
 refine Ty.eE (p:=fun t=>(∀y∈t.nodes,y.args.length≤100)→t.Ok) ?_ t
 intro t ih h
 refine .mk (by have:=h t (by rw [Ty.bl];simp);unfold Sm;omega) fun x hx=>ih x hx fun y hy=>h y (F3 x hx y hy)
theorem JB {K:Int→Prop} {t:Ty} {w:Int} (h:gS t w):t.Kn K→¬K 1→False:=by
 induction h with
 | @var t q=>intro hk h1;have:=(hk.hd (by rw [q];decide)).1;rw [q] at this;exact h1 this
 | arg _ ha _ ih=>intro hk h1;exact ih (hk.kd _ ha) h1
structure cb (t:Ty):Prop where
 ok:t.Ok
 kn:t.Kn KG
structure kh (c:Sc):Prop where
 ok:c.ty.Ok
 kn:c.ty.Kn KC
 P3:∃K:Nat,c.id=K∧K≤100∧LH K c.ty
theorem cb.fit {S:List Int} {t:Ty} (h:cb t):Fit S t:=⟨h.ok,h.kn.imp Mk,fun _ ho=>(JB ho h.kn (by simp)).elim⟩
theorem cb.fM {t:Ty} (h:cb t):∀x∈t.args,cb x:=fun x hx=>⟨h.ok.fM x hx,h.kn.kd x hx⟩
theorem kh.Rc {c:Sc} (h:kh c) {g:Ty} (hg:cb g):∃K,Qy 0 0 (sj 0) c K g []:=by
 obtain ⟨K,h1,h2,h3⟩:=h.P3
 exact ⟨K,⟨uW 0,by omega,by omega,h1,h2,h.ok,h.kn.imp PF,h3,fun _ ho=>(JB ho h.kn (by simp)).elim,hg.fit,by simp,by simp⟩⟩
theorem cb.mono {t:Ty} (h:cb t):kh ⟨0,t⟩:=⟨h.ok,h.kn.imp PE,0,rfl,by omega,fun y hy hk=>by have:=(h.kn.nodes y hy (by rw [hk];decide)).1;rw [hk] at this;simp at this⟩
theorem pW:cb br:=⟨cO rfl,.bare rfl (by simp [br])⟩
def LK (c:Sc):Bool:=c.ty.nodes.all fun y=>decide (y.args.length≤100) && (decide (y.kind=4) || (decide (y.kind=0) || decide (y.kind=2) || decide (y.kind=3)) && decide (y.args.length=0)) && (decide (y.kind≠2) || decide (0≤y.id) && decide (y.id<c.id))
theorem Cx {c:Sc} {K:Nat} (hc:c.id=K) (hK:K≤100) (h:LK c=true):kh c:=by
 simp only [LK,List.all_eq_true,Bool.and_eq_true,Bool.or_eq_true,decide_eq_true_eq] at h
 refine ⟨pr _ fun y hy=>(h y hy).1.1,Kn.yd _ fun y hy hk=>?_,K,hc,hK,fun y hy hk=>?_⟩
 · rcases (h y hy).1.2 with q | ⟨q,q2⟩
   · exact absurd q hk
   · exact ⟨by simp only [KC];omega,List.length_eq_zero_iff.1 q2⟩
 · rcases (h y hy).2 with q | q
   · exact absurd hk q
   · omega
theorem LL:∀d∈cu,d.params.length≤100∧∀c∈d.cons,LK ⟨d.params.length,BG d.params c.fields (Jt d)⟩=true:=by decide +kernel
theorem F4 {ds:List Dt} (hD:∀d∈ds,d∈cu) {s:bS}:kh ((pq ds s).getD mi):=by
 cases e:pq ds s with
 | none=>exact ⟨cO rfl,.bare rfl (by simp [mi]),0,rfl,by omega,by intro y hy hk;simp [mi,Ty.bl] at hy;rw [hy] at hk;simp at hk⟩
 | some sc=>
   simp only [pq,Option.bind_eq_some_iff,Option.map_eq_some_iff] at e
   obtain ⟨q,_,d,hd,c,hc,rfl⟩:=e
   obtain ⟨h1,h2⟩:=LL d (hD d (bm hd))
   exact Cx (K:=d.params.length) rfl h1 (h2 c (bm hc))
theorem dU:∀d∈cu,d.params.length≤8∧d.cons.length≤8∧∀c∈d.cons,c.fields.length≤8∧∀x∈c.fields,x.nodes.all (fun y=>decide (y.args.length≤100) && (decide (y.kind=4) || decide (y.kind=5) && decide (y.args.length=0)))=true:=by decide +kernel
theorem Cy {d:Dt} (hd:d∈cu):∀c∈d.cons,Sm c.fields∧(∀x∈c.fields,x.Ok)∧∀x∈c.fields,x.Kn (·=5):=by
 intro c hc
 obtain ⟨_,_,h⟩:=dU d hd
 obtain ⟨h1,h2⟩:=h c hc
 simp only [List.all_eq_true,Bool.and_eq_true,Bool.or_eq_true,decide_eq_true_eq] at h2
 refine ⟨by unfold Sm;omega,fun x hx=>pr _ fun y hy=>(h2 x hx y hy).1,fun x hx=>Kn.yd _ fun y hy hk=>?_⟩
 rcases (h2 x hx y hy).2 with q | ⟨q,q2⟩
 · exact absurd q hk
 · exact ⟨q,List.length_eq_zero_iff.1 q2⟩
structure rP (ds:List Dt):Prop where
 all:∀d∈ds,d∈cu
 len:ds.length≤8
theorem rP.c193 {ds:List Dt} (h:rP ds) {s:bS}:(aP AP).p 193 [.aD (ds.map Dt.pv),.str s]=some (Lj (pq ds s)):=
 Lw.c193 (by have:=h.len;unfold Sm;omega) (fun d hd=>by have:=(dU d (h.all d hd)).2.1;unfold Sm;omega) (fun d hd=>by have:=(dU d (h.all d hd)).1;unfold Sm;omega) (fun d hd c hc=>by
   obtain ⟨a,b,c2⟩:=Cy (h.all d hd) c hc
   exact ⟨a,b,fun x hx=>(c2 x hx).cw⟩)
theorem LM {l:List Ty} (h:∀t∈l,∃K:Int→Prop,t.Kn K∧¬K 1):vars l=[]:=by
 have:∀y∈l.flatMap Ty.nodes,y.kind≠1:=by
   intro y hy hk
   simp only [List.mem_flatMap] at hy
   obtain ⟨t,ht,hy⟩:=hy
   obtain ⟨K,hK,h1⟩:=h t ht
   have:=(hK.nodes y hy (by rw [hk];decide)).1
   rw [hk] at this
   exact h1 this
 unfold vars
 generalize l.flatMap Ty.nodes=m at *
 induction m with
 | nil=>rfl
 | cons a r ih=>
   have:cY [] a=[]:=by simp [cY,this a (by simp)]
   rw [List.foldl_cons,this]
   exact ih fun y hy=>by rename_i h2;exact h2 y (by simp [hy])
theorem JC {k:Int} {t:Ty}:∀y∈t.eJ k,y∈t.nodes∧y.kind=k:=by
 refine Ty.eE (p:=fun t=>∀y∈t.eJ k,y∈t.nodes∧y.kind=k) ?_ t
 intro t ih y hy
 rw [Ty.kK] at hy
 rw [Ty.bl]
 split at hy
 · rename_i q
   simp at hy
   subst hy
   exact ⟨by simp,q.1⟩
 · simp only [List.mem_flatMap] at hy
   obtain ⟨a,ha,hy⟩:=hy
   have:=ih a ha y hy
   exact ⟨by simp only [List.mem_cons,List.mem_flatMap];exact .inr ⟨a,ha,this.1⟩,this.2⟩
theorem Cz {K:Int→Prop} {t:Ty} (h:t.Kn K) (h1:¬K 1) (hO:t.Ok):Good [] t:=⟨hO,h.wf,by
 intro y hy
 obtain ⟨a,b⟩:=JC y hy
 have:=(h.nodes y a (by rw [b];decide)).1
 rw [b] at this
 exact absurd this h1⟩
end Go.Ab.Lw
namespace Go.Ab.Lw
open Ev
theorem ye (t:Ty):t.sub []=t:=by
 refine Ty.eE (p:=fun t=>t.sub []=t) ?_ t
 intro t ih
 rw [Ty.sub_eq]
 split
 · simp [ke]
 · have:t.args.map (Ty.sub [])=t.args:=by
     conv=>rhs;rw [←List.map_id t.args]
     exact List.map_congr_left fun x hx=>by simpa using ih x hx
   rw [this]
   cases t;rfl
def vf:List AV:=[.pv (.aD []),.pv (.aD [])]
theorem MI {g:Ty} (hg:cb g) {ds:List Dt} {E:List En} (hE:Sm E) (hc:∀x∈E,kh x.sc) {T:Nat} (hT:T≤1000000):∀(n i:Nat),E.length-i=n→i≤E.length→∀acc:List Hd,acc.length+4*n≤T→(∀h∈acc,rL h) →
   ∃hs:List Hd,hs.length≤T∧(∀h∈hs,rL h)∧cl AP g362L0 ⟨[(0,.pv (.aD (ds.map Dt.pv))),(4,.pv (vI 3)),(14,.az 14 0),(15,.pv (.aD [])),(16,.az 16 0),(17,.own (acc.map Hd.pv) 0),(18,.pv (.aD (E.map En.pv))),(19,.pv (vI i))],[(14,vf),(16,tC g)],[],[acc.length]⟩ =
     some (.exit 0,⟨[(0,.pv (.aD (ds.map Dt.pv))),(4,.pv (vI 3)),(14,.az 14 0),(15,.pv (.aD [])),(16,.az 16 0),(17,.own (hs.map Hd.pv) 0),(18,.pv (.aD (E.map En.pv))),(19,.pv (vI E.length)),(51,.pv (.bool false))],[(14,vf),(16,tC g)],[],[hs.length]⟩)
 | 0,i,hn,hi,acc,ha,ho=>by
   have:i=E.length:=by omega
   subst this
   refine ⟨acc,by omega,ho,?_⟩
   rw [g362L0e]
   simp [g362B0,vf,tC]
 | n+1,i,hn,hi,acc,ha,ho=>by
   have hi:i<E.length:=by omega
   obtain ⟨x,hx⟩:=bp hi
   have hs:=hc x (bm hx)
   obtain ⟨K,El⟩:=hs.Rc hg
   obtain ⟨l,q1,q2,k2⟩:=c378 El (nm:=x.name) (cn:=false)
   have k1:=c377 (s:=[]) (by simp [Sm]) hs.ok
   rw [ye] at k1
   obtain ⟨hs,h1,h2,e'⟩:=MI hg (ds:=ds) hE hc hT n (i+1) (by omega) (by omega) (acc++l) (by simp;omega) (by
     intro h hh;simp at hh;rcases hh with hh | hh
     · exact ho h hh
     · exact q2 h hh)
   refine ⟨hs,h1,h2,?_⟩
   unfold Sm at hE
   have hb:(acc.length+l.length)*72≤140737488355328:=by omega
   have hb0:acc.length*72≤140737488355328:=by omega
   have hh:=JA.head l
   rw [g362L0e] at e' ⊢
   simp [vf,tC] at e'
   simp [sj] at k1 k2 hh
   by_cases z:l=[]
   · subst z
     simp at k2 e'
     simp (disch:=omega) [-getElem?_pos,g362B0,vf,tC,hx,hi,k1,k2,hb0,au]
     rw [g362L0e]
     simp [e']
   · simp (disch:=omega) [-getElem?_pos,g362B0,vf,tC,hx,hi,k1,k2,hb,hh,z,au]
     rw [g362L0e]
     simp [e']
theorem MJ {g:Ty} (hg:cb g) {ds:List Dt} (hD:rP ds) {I:Nat} {d:Dt} (hd:ds[I]?=some d) {T:Nat} (hT:T≤1000000):∀(n i:Nat),d.cons.length-i=n→i≤d.cons.length→∀acc:List Hd,acc.length+4*n≤T→(∀h∈acc,rL h) →
   ∃hs:List Hd,hs.length≤T∧(∀h∈hs,rL h)∧cl AP g362L2 ⟨[(0,.pv (.aD (ds.map Dt.pv))),(4,.pv (vI 3)),(14,.az 14 0),(15,.pv (.aD [])),(16,.az 16 0),(17,.own (acc.map Hd.pv) 0),(21,.pv (vI I)),(22,.pv (vI i))],[(14,vf),(16,tC g)],[],[acc.length]⟩ =
     some (.exit 4,⟨[(0,.pv (.aD (ds.map Dt.pv))),(4,.pv (vI 3)),(14,.az 14 0),(15,.pv (.aD [])),(16,.az 16 0),(17,.own (hs.map Hd.pv) 0),(21,.pv (vI I)),(22,.pv (vI d.cons.length)),(88,.pv (.bool false))],[(14,vf),(16,tC g)],[],[hs.length]⟩)
 | 0,i,hn,hi,acc,ha,ho=>by
   have:i=d.cons.length:=by omega
   subst this
   refine ⟨acc,by omega,ho,?_⟩
   have hI:=(List.getElem?_eq_some_iff.1 hd).1
   rw [g362L2e]
   simp [-getElem?_pos,g362B2,vf,tC,hd,hI]
 | n+1,i,hn,hi,acc,ha,ho=>by
   have hi:i<d.cons.length:=by omega
   have hI:=(List.getElem?_eq_some_iff.1 hd).1
   obtain ⟨c,hc⟩:=bp hi
   have k1:=hD.c193 (s:=c.name)
   have hs:=F4 hD.all (s:=c.name)
   have hc8:=(dU d (hD.all d (bm hd))).2.1
   generalize hsc:(pq ds c.name).getD mi=sc at *
   obtain ⟨K,El⟩:=hs.Rc hg
   obtain ⟨l,q1,q2,k2⟩:=c378 El (nm:=c.name) (cn:=true)
   obtain ⟨hs,h1,h2,e'⟩:=MJ hg hD hd hT n (i+1) (by omega) (by omega) (acc++l) (by simp;omega) (by
     intro h hh;simp at hh;rcases hh with hh | hh
     · exact ho h hh
     · exact q2 h hh)
   refine ⟨hs,h1,h2,?_⟩
   have hb:(acc.length+l.length)*72≤140737488355328:=by omega
   have hb0:acc.length*72≤140737488355328:=by omega
   have hh:=JA.head l
   rw [g362L2e] at e' ⊢
   simp [vf,tC] at e'
   simp [sj] at k2 hh
   simp [Lj,hsc] at k1
   by_cases z:l=[]
   · subst z
     simp at k2 e'
     simp (disch:=omega) [-getElem?_pos,g362B2,vf,tC,hd,hI,hc,hi,k1,k2,hb0,au]
     rw [g362L2e]
     simp [e']
   · simp (disch:=omega) [-getElem?_pos,g362B2,vf,tC,hd,hI,hc,hi,k1,k2,hb,hh,z,au]
     rw [g362L2e]
     simp [e']
theorem MK {g:Ty} (hg:cb g) {ds:List Dt} (hD:rP ds) {T:Nat} (hT:T≤1000000):∀(n i:Nat),ds.length-i=n→i≤ds.length→∀acc:List Hd,acc.length+32*n≤T→(∀h∈acc,rL h) →
   ∃hs:List Hd,hs.length≤T∧(∀h∈hs,rL h)∧cl AP g362L1 ⟨[(0,.pv (.aD (ds.map Dt.pv))),(4,.pv (vI 3)),(14,.az 14 0),(15,.pv (.aD [])),(16,.az 16 0),(17,.own (acc.map Hd.pv) 0),(21,.pv (vI i))],[(14,vf),(16,tC g)],[],[acc.length]⟩ =
     some (.exit 2,⟨[(0,.pv (.aD (ds.map Dt.pv))),(4,.pv (vI 3)),(14,.az 14 0),(15,.pv (.aD [])),(16,.az 16 0),(17,.own (hs.map Hd.pv) 0),(21,.pv (vI ds.length)),(78,.pv (.bool false))],[(14,vf),(16,tC g)],[],[hs.length]⟩)
 | 0,i,hn,hi,acc,ha,ho=>by
   have:i=ds.length:=by omega
   subst this
   refine ⟨acc,by omega,ho,?_⟩
   rw [g362L1e]
   simp [g362B1,vf,tC]
 | n+1,i,hn,hi,acc,ha,ho=>by
   have hi:i<ds.length:=by omega
   obtain ⟨d,hd⟩:=bp hi
   have hc8:=(dU d (hD.all d (bm hd))).2.1
   obtain ⟨l,q1,q2,e⟩:=MJ hg hD hd (T:=acc.length+32) (by omega) _ 0 rfl (by omega) acc (by omega) ho
   obtain ⟨hs,h1,h2,e'⟩:=MK hg hD hT n (i+1) (by omega) (by omega) l (by omega) q2
   refine ⟨hs,h1,h2,?_⟩
   have hl:=hD.len
   rw [g362L1e] at e' ⊢
   rw [g362L2e] at e
   simp [vf,tC] at e' e
   simp (disch:=omega) [-getElem?_pos,g362B1,vf,tC,hd,hi,au]
   rw [g362L2e]
   simp (disch:=omega) [e,au]
   rw [g362L1e]
   simp [e']
theorem c362 {g:Ty} (hg:cb g) {ds:List Dt} (hD:rP ds) {l:List En} (hl:l.length≤10000) (hc:∀x∈l,kh x.sc):∃hs:List Hd,hs.length≤100000∧(∀h∈hs,rL h) ∧
   (aP AP).p 362 [.aD (ds.map Dt.pv),.aD (l.map En.pv),g.pv,.aD [],vI 3]=some [.aD (hs.map Hd.pv)]:=by
 obtain ⟨a,b,c,k1,_⟩:=c194g hg.ok
 have hdl:=hD.len
 cases c with
 | true=>
   refine ⟨[],by simp,by simp,?_⟩
   simp at k1
   rw [aq (af:=g362) rfl rfl (by decide)]
   simp [g362,k1]
 | false=>
   have hsub:∀x∈dr l,kh x.sc:=fun x hx=>hc x (rf l x hx)
   have hsl:=rh l
   obtain ⟨vs,hv,_,k2⟩:=c376 (S:=[]) (by simp) (by simp) (Cz hg.kn (by simp) hg.ok) (l:=l) (by unfold Sm;omega) (by omega) (fun x hx=>Cz (hc x hx).kn (by simp) (hc x hx).ok)
   have hv0:vs=[]:=by
     rw [hv]
     refine LM ?_
     intro t ht
     simp only [List.mem_cons,List.mem_map] at ht
     rcases ht with rfl | ⟨x,hx,rfl⟩
     · exact ⟨KG,hg.kn,by simp⟩
     · exact ⟨KC,(hsub x hx).kn,by simp⟩
   subst hv0
   have k3:=c46 (s:=[]) (by simp [Sm]) hg.ok
   rw [ye] at k3
   have k4:=c201 (l:=l) (by unfold Sm;omega)
   obtain ⟨o1,a1,a2,h1⟩:=MI hg (ds:=ds) (E:=dr l) (by unfold Sm;omega) hsub (T:=40000) (by omega) _ 0 rfl (by omega) [] (by simp;omega) (by simp)
   obtain ⟨o2,b1,b2,h2⟩:=MK hg hD (T:=100000) (by omega) _ 0 rfl (by omega) o1 (by omega) a2
   refine ⟨o2,b1,b2,?_⟩
   rw [g362L0e] at h1
   rw [g362L1e] at h2
   generalize dr l=E at *
   simp [vf,tC] at h1 h2
   simp at k1 k3 k4
   simp [sj,gC] at k2
   rw [aq (af:=g362) rfl rfl (by decide)]
   simp [g362,k1,k2,k3,k4,g362L0e,h1,g362L1e,h2]
end Go.Ab.Lw
namespace Go.Ab.Lw
open Ev
def m6:List AV:=[.pv (vI 0),.pv (vI 0),.pv (.str []),.pv (vI 0),.own [] 0,.own [] 1,.pv (vI 0),.pv (.str []),.pv (vI 0),.pv (vI 0),.own [] 2]
def pX (d:Dt):List AV:=[.pv (vI d.pos),.pv (.str d.name),.pv (.aD (d.params.map .str)),.pv (.aD (d.cons.map gR.pv))]
def LN (a:Ex) (as:List Ar):List AV:=[.pv (vI 8),.pv (vI 0),.pv (.str []),.pv (vI 0),.own [a.pv] 3,.own (as.map Ar.pv) 4,.pv (vI 0),.pv (.str []),.pv (vI 0),.pv (vI 0),.own [] 5]
def P4 (c:gR) (vs:List bS):List AV:=[.pv (vI 0),.pv (.str c.name),.own (vs.map .str) 6,.pv (vI 0),.pv (vI 0),.pv (.str []),.pv (vI 0),.own [] 7,.own [] 8,.pv (vI 0),.pv (.str []),.pv (vI 0),.pv (vI 0),.own [] 9]
def BM (ds:List Dt) (dep:Nat) (d:Dt) (as:List Ar):Prop:=
 (∀x∈as,fC ds dep x.body)∧(∀x∈as,x.pos=0∧∀v∈x.vars,v∈mr)∧(∀(i:Nat) (c:gR) (x:Ar),d.cons[i]?=some c→as[i]?=some x→x.gq=c.name∧x.vars.length=c.fields.length)
end Go.Ab.Lw
namespace Go.Ab.Lw
open Ev
structure Tape (L:List Int) (tm:Nat) (TP:Int→Sh):Prop where
 get:∀i,(TP i)[tm]?=some (some [.pv (.aD (L.map vI)),.pv (vI i)])
 set:∀i j,(TP i).set tm (some [.pv (.aD (L.map vI)),.pv (vI j)])=TP j
 quiet:∀i,a7 (TP i)
theorem Tape.norm {L:List Int} {tm:Nat} {TP:Int→Sh} (h:Tape L tm TP):∀i aQ ts,bC aQ ts (TP i)=(TP i,aQ,ts):=fun i=>(h.quiet i).norm
theorem Tape.shift {L:List Int} {tm:Nat} {TP:Int→Sh} (h:Tape L tm TP):∀i n,eB n (TP i)=TP i:=fun i=>(h.quiet i).shift
theorem Tape.take {L:List Int} {tm:Nat} {TP:Int→Sh} (h:Tape L tm TP):∀i j,(TP j).take (TP i).length=TP j:=by
 intro i j
 refine List.take_of_length_le ?_
 rw [←h.set i j,List.length_set]
 exact Nat.le_refl _
theorem CA {L:List Int} {A B:Sh} (hA:a7 A) (hB:a7 B):Tape L A.length (fun i=>A++[some [.pv (.aD (L.map vI)),.pv (vI i)]]++B) where
 get:=fun i=>by simp
 set:=fun i j=>by simp [List.set_append]
 quiet:=fun i=>(hA.app (a7.one (by intro v hv;simp at hv;rcases hv with rfl | rfl<;>exact ⟨_,rfl⟩))).app hB
theorem mz {L:List Int} {tm:Nat} {TP:Int→Sh} (hT:Tape L tm TP) (hL:Sm L) {i:Nat} (hi:i≤L.length) {n:Int} (h1:1≤n) (h2:n<4611686018427387904) :
   ∃(r:Int) (j:Nat),(aP AP).i 68 [.aX tm 0,.pv (vI n)] (TP i) []=some ([.pv (vI r)],TP j,[])∧0≤r∧r<n∧j≤L.length:=by
 unfold Sm at hL
 have tn:=hT.norm
 have tsh:=hT.shift
 have tg:=hT.get
 have tset:=hT.set
 have tl:=hT.take
 rw [aK (af:=g68) rfl (by simp [g68])]
 by_cases h:i<L.length
 · obtain ⟨x,hx⟩:=bp h
   obtain ⟨r,e,e1,e2⟩:=c26 (n:=x) h1 h2
   refine ⟨r,i+1,?_,e1,e2,h⟩
   have h':¬L.length≤i:=by omega
   simp (disch:=omega) [-getElem?_pos,g68,h',au,hx,e,tn,tsh,tg,tset,tl]
 · have h':L.length≤i:=by omega
   refine ⟨0,i,?_,by omega,by omega,hi⟩
   simp [-getElem?_pos,g68,h',tn,tsh,tg,tset,tl]
theorem F5 {L:List Int} {tm:Nat} {TP:Int→Sh} (hT:Tape L tm TP) (hL:Sm L) {i:Nat} (hi:i≤L.length):∃(s:List UInt8) (j:Nat),(aP AP).i 175 [.aX tm 0] (TP i) []=some ([.pv (.str s)],TP j,[])∧s∈varNames∧j≤L.length:=by
 have tn:=hT.norm
 have tsh:=hT.shift
 have tl:=hT.take
 obtain ⟨k,j,e,k0,k8,hj⟩:=mz hT hL hi (n:=8) (by omega) (by omega)
 obtain ⟨m,rfl,hm⟩:=jS (n:=varNames.length) k0 (by simpa [varNames] using k8)
 obtain ⟨s,hs⟩:=bp hm
 refine ⟨s,j,?_,bm hs,hj⟩
 try simp [tn,tsh,tl] at e
 rw [aK (af:=g175) rfl (by simp [tn,tsh,tl,g175])]
 have hs':([PV.str [120],.str [121],.str [122],.str [102],.str [103],.str [118,49],.str [118,50],.str [105,100]]:List PV)[m]?=some (.str s):=by
   have:([PV.str [120],.str [121],.str [122],.str [102],.str [103],.str [118,49],.str [118,50],.str [105,100]]:List PV)=varNames.map PV.str:=rfl
   rw [this];simp [tn,tsh,tl,hs]
 simp [tn,tsh,tl,-getElem?_pos,g175,e,hs']
def nB (L:List Int) (tm:Nat) (TP:Int→Sh) (ds:List Dt) (lv:List Ty) (dep:Nat):Prop:=∀i:Nat,i≤L.length→∃(t:Ty) (j:Nat),
 (aP AP).i 27 [.aX tm 0,.pv (.aD (ds.map Dt.pv)),.pv (.aD (lv.map Ty.pv)),.pv (vI dep)] (TP i) []=some ([t.av],TP j,[])∧gm (·∈ds) lv dep t∧j≤L.length
theorem P5 {L:List Int} {tm:Nat} {TP:Int→Sh} (hT:Tape L tm TP) {ds:List Dt} {lv:List Ty} {dep:Nat} (hdep:dep<1000) (hg:nB L tm TP ds lv dep) {d:Dt} (hS:Sm d.params):∀(n k:Nat),d.params.length-k=n→k≤d.params.length→∀(acc:List Ty) (i:Nat),acc.length=k→(∀x∈acc,gm (·∈ds) lv dep x)→i≤L.length →
   ∃(r:List Ty) (j:Nat),cl AP g27L0 ⟨[(0,.aX tm 0),(1,.pv (.aD (ds.map Dt.pv))),(2,.pv (.aD (lv.map Ty.pv))),(3,.pv (vI (dep+1))),(8,.az 8 0),(10,.az 10 0),(11,.own (acc.map Ty.pv) 0),(12,.pv (vI k))],
     [(8,[.pv (vI 0),.pv (.str []),.pv (vI 0),.pv (vI 0),.own [] 1]),(10,[.pv (vI d.pos),.pv (.str d.name),.pv (.aD (d.params.map .str)),.pv (.aD (d.cons.map gR.pv))])],TP i,[acc.length,0]⟩ =
     some (.exit 1,⟨[(0,.aX tm 0),(1,.pv (.aD (ds.map Dt.pv))),(2,.pv (.aD (lv.map Ty.pv))),(3,.pv (vI (dep+1))),(8,.az 8 0),(10,.az 10 0),(11,.own (r.map Ty.pv) 0),(12,.pv (vI d.params.length)),(65,.pv (.bool false))],
     [(8,[.pv (vI 0),.pv (.str []),.pv (vI 0),.pv (vI 0),.own [] 1]),(10,[.pv (vI d.pos),.pv (.str d.name),.pv (.aD (d.params.map .str)),.pv (.aD (d.cons.map gR.pv))])],TP j,[r.length,0]⟩) ∧
     r.length=d.params.length∧(∀x∈r,gm (·∈ds) lv dep x)∧j≤L.length
 | 0,k,hn,hk,acc,i,ha,hm,hi=>by
   have tn:=hT.norm
   have tsh:=hT.shift
   have tl:=hT.take
   have:k=d.params.length:=by omega
   subst this
   refine ⟨acc,i,?_,ha,hm,hi⟩
   rw [g27L0e]
   simp [tn,tsh,tl,g27B0]
 | n+1,k,hn,hk,acc,i,ha,hm,hi=>by
   have tn:=hT.norm
   have tsh:=hT.shift
   have tl:=hT.take
   unfold Sm at hS
   have hk:k<d.params.length:=by omega
   have hb:(acc.length+1)*64≤140737488355328:=by omega
   obtain ⟨t,j,e,mt,hj⟩:=hg i hi
   try simp [tn,tsh,tl] at e
   obtain ⟨r,j',e',hr,hm',hj'⟩:=P5 hT hdep hg hS n (k+1) (by omega) (by omega) (acc++[t]) j (by simp;omega) (by
     intro x hx;simp at hx;rcases hx with hx | rfl
     · exact hm x hx
     · exact mt) hj
   try simp [tn,tsh,tl] at e'
   refine ⟨r,j',?_,hr,hm',hj'⟩
   rw [g27L0e]
   have h1:(dep:Int)+1-1=dep:=by omega
   simp (disch:=omega) [tn,tsh,tl,-getElem?_pos,g27B0,hk,au,h1,e,hb]
   rw [e']
theorem P6 {L:List Int} {tm:Nat} {TP:Int→Sh} (hT:Tape L tm TP) (hL:Sm L) {ds:List Dt} {lv:List Ty} (hlv:Sm lv):nB L tm TP ds lv 0:=by
 have tn:=hT.norm
 have tsh:=hT.shift
 have tl:=hT.take
 intro i hi
 obtain ⟨k,j1,e1,k0,k7,hj1⟩:=mz hT hL hi (n:=7) (by omega) (by omega)
 try simp [tn,tsh,tl] at e1
 unfold Sm at hlv
 by_cases h1:k<3
 · by_cases h2:lv=[]
   · subst h2
     refine ⟨br,j1,?_,.int,hj1⟩
     have c:=c34
     try simp [tn,tsh,tl] at c
     rw [aK (af:=g27) rfl (by simp [tn,tsh,tl,g27])]
     simp [tn,tsh,tl,-getElem?_pos,g27,e1,h1,c,br]
   · have hp:0<lv.length:=List.length_pos_iff.2 h2
     obtain ⟨r,j2,e2,r0,r1,hj2⟩:=mz hT hL hj1 (n:=lv.length) (by omega) (by omega)
     obtain ⟨m,rfl,hm⟩:=jS r0 r1
     obtain ⟨x,hx⟩:=bp hm
     try simp [tn,tsh,tl] at e2
     refine ⟨x,j2,?_,.leaf (bm hx),hj2⟩
     rw [aK (af:=g27) rfl (by simp [tn,tsh,tl,g27])]
     simp [tn,tsh,tl,-getElem?_pos,g27,e1,h1,hp,e2,hx]
 · refine ⟨br,j1,?_,.int,hj1⟩
   have c:=c34
   try simp [tn,tsh,tl] at c
   rw [aK (af:=g27) rfl (by simp [tn,tsh,tl,g27])]
   simp [tn,tsh,tl,-getElem?_pos,g27,e1,h1,c,br]
theorem P7 {L:List Int} {tm:Nat} {TP:Int→Sh} (hT:Tape L tm TP) (hL:Sm L) {ds:List Dt} (hds:ds.length≤20) (hda:∀d∈ds,d.params.length≤8) {lv:List Ty} (hlv:Sm lv) {dep:Nat} (hdep:dep<1000) (hg:nB L tm TP ds lv dep):nB L tm TP ds lv (dep+1):=by
 have tn:=hT.norm
 have tsh:=hT.shift
 have tl:=hT.take
 intro i hi
 obtain ⟨k,j1,e1,k0,k7,hj1⟩:=mz hT hL hi (n:=7) (by omega) (by omega)
 try simp [tn,tsh,tl] at e1
 unfold Sm at hlv
 have hd1:¬((dep:Int)+1<1):=by omega
 have hd2:(dep:Int)+1-1=dep:=by omega
 have leafCase:∀h1:k<3,∀h2:¬lv=[],∃(t:Ty) (j:Nat),(aP AP).i 27 [.aX tm 0,.pv (.aD (ds.map Dt.pv)),.pv (.aD (lv.map Ty.pv)),.pv (vI ((dep+1:Nat):Int))] (TP i) []=some ([t.av],TP j,[])∧gm (·∈ds) lv (dep+1) t∧j≤L.length:=by
   intro h1 h2
   have hp:0<lv.length:=List.length_pos_iff.2 h2
   obtain ⟨r,j2,e2,r0,r1,hj2⟩:=mz hT hL hj1 (n:=lv.length) (by omega) (by omega)
   obtain ⟨m,rfl,hm⟩:=jS r0 r1
   obtain ⟨x,hx⟩:=bp hm
   try simp [tn,tsh,tl] at e2
   refine ⟨x,j2,?_,.leaf (bm hx),hj2⟩
   rw [aK (af:=g27) rfl (by simp [tn,tsh,tl,g27])]
   simp [tn,tsh,tl,-getElem?_pos,g27,e1,h1,hp,e2,hx]
 by_cases h1:k<3∧¬lv=[]
 · exact leafCase h1.1 h1.2
 · have h1':¬k<3∨lv=[]:=by
     by_cases h:k<3
     · right;by_cases h':lv=[]
       · exact h'
       · exact absurd ⟨h,h'⟩ h1
     · exact .inl h
   by_cases h2:k<4
   · refine ⟨br,j1,?_,.int,hj1⟩
     have c:=c34
     try simp [tn,tsh,tl] at c
     rw [aK (af:=g27) rfl (by simp [tn,tsh,tl,g27])]
     rcases h1' with h | h
     · simp [tn,tsh,tl,-getElem?_pos,g27,e1,h,h2,c,br]
     · subst h
       simp [tn,tsh,tl,-getElem?_pos,g27,e1,h2,c,br]
   · have h3:¬k<3:=by omega
     by_cases h4:(k=4∨k=5)∧¬ds=[]
     · obtain ⟨h4,h5⟩:=h4
       have hp:0<ds.length:=List.length_pos_iff.2 h5
       obtain ⟨r,j2,e2,r0,r1,hj2⟩:=mz hT hL hj1 (n:=ds.length) (by omega) (by omega)
       obtain ⟨m,rfl,hm⟩:=jS r0 r1
       obtain ⟨d,hx⟩:=bp hm
       try simp [tn,tsh,tl] at e2
       have hdm:=bm hx
       have hps:Sm d.params:=by
         unfold Sm
         have:=hda d hdm
         omega
       obtain ⟨as,j3,e3,ha,hm3,hj3⟩:=P5 hT hdep hg hps d.params.length 0 rfl (by omega) [] j2 rfl (by simp) hj2
       rw [g27L0e] at e3
       try simp [tn,tsh,tl] at e3
       have hsa:Sm as:=by unfold Sm at hps ⊢;omega
       have c:=c62 (s:=d.name) (l:=as) hsa
       try simp [tn,tsh,tl] at c
       refine ⟨⟨4,d.name,0,0,as⟩,j3,?_,.gq hdm ha hm3,hj3⟩
       rw [aK (af:=g27) rfl (by simp [tn,tsh,tl,g27])]
       rcases h4 with rfl | rfl
       · simp [tn,tsh,tl,-getElem?_pos,g27,e1,hp,hd1,e2,hx,g27L0e,e3,c]
       · simp [tn,tsh,tl,-getElem?_pos,g27,e1,hp,hd1,e2,hx,g27L0e,e3,c]
     · obtain ⟨a,j2,ea,ma,hj2⟩:=hg j1 hj1
       obtain ⟨b,j3,eb,mb,hj3⟩:=hg j2 hj2
       try simp [tn,tsh,tl] at ea eb
       have c:=c69 (a:=a) (b:=b)
       try simp [tn,tsh,tl] at c
       refine ⟨⟨4,[45,62],0,0,[a,b]⟩,j3,?_,.arrow ma mb,hj3⟩
       rw [aK (af:=g27) rfl (by simp [tn,tsh,tl,g27])]
       by_cases h5:ds=[]
       · subst h5
         try simp [tn,tsh,tl] at ea eb
         simp (disch:=omega) [tn,tsh,tl,-getElem?_pos,g27,e1,h2,h3,hd1,hd2,au,ea,eb,c]
       · have h6:¬k=4∧¬k=5:=by
           constructor
           · intro h;exact h4 ⟨.inl h,h5⟩
           · intro h;exact h4 ⟨.inr h,h5⟩
         simp (disch:=omega) [tn,tsh,tl,-getElem?_pos,g27,e1,h2,h3,h6.1,h6.2,hd1,hd2,au,ea,eb,c]
theorem NZ {L:List Int} {tm:Nat} {TP:Int→Sh} (hT:Tape L tm TP) (hL:Sm L) {ds:List Dt} (hds:ds.length≤20) (hda:∀d∈ds,d.params.length≤8) {lv:List Ty} (hlv:Sm lv):∀dep:Nat,dep<1000→nB L tm TP ds lv dep
 | 0,_=>P6 hT hL hlv
 | dep+1,h=>P7 hT hL hds hda hlv (by omega) (NZ hT hL hds hda hlv dep (by omega))
def pY (L:List Int) (tm:Nat) (TP:Int→Sh) (ds:List Dt) (dep:Nat):Prop:=∀i:Nat,i≤L.length→∃(e:Ex) (fk fa fg:Bool) (j:Nat),
 (aP AP).i 247 [.aX tm 0,.pv (.aD (ds.map Dt.pv)),.pv (vI dep)] (TP i) []=some ([.agg (dZ fk fa fg e)],TP j,[])∧fC ds dep e∧j≤L.length
theorem tv {L:List Int} {tm:Nat} {TP:Int→Sh} (hT:Tape L tm TP) (hL:Sm L) {ds:List Dt} (hds:ds.length≤8) (hD:∀d∈ds,D8 d) {dep:Nat} {i j1:Nat} {k:Int} (hj1:j1≤L.length)
   (e1:(aP AP).i 68 [.aX tm 0,.pv (vI 14)] (TP i) []=some ([.pv (vI k)],TP j1,[])) (k0:0≤k) (hk:if dep=0 then True else k<5) :
   ∃(e:Ex) (fk fa fg:Bool) (j:Nat),(aP AP).i 247 [.aX tm 0,.pv (.aD (ds.map Dt.pv)),.pv (vI dep)] (TP i) []=some ([.agg (dZ fk fa fg e)],TP j,[])∧fC ds dep e∧j≤L.length:=by
 have tn:=hT.norm
 have tsh:=hT.shift
 have tl:=hT.take
 try simp [tn,tsh,tl] at e1
 obtain ⟨r,hr,hr0,hr1⟩:∃r:Int,(if dep=0 then k.tmod 5 else k)=r∧0≤r∧r<5:=by
   by_cases h:dep=0
   · refine ⟨k.tmod 5,by simp [tn,tsh,tl,h],?_,?_⟩
     · exact Int.tmod_nonneg 5 k0
     · exact Int.tmod_lt_of_pos k (by omega)
   · simp [tn,tsh,tl,h] at hk
     exact ⟨k,by simp [tn,tsh,tl,h],k0,hk⟩
 have hcase:r=0∨r=1∨r=2∨r=3∨r=4:=by omega
 have hd:dep=0∧k.tmod 5=r∨¬((dep:Int)<1)∧k=r:=by
   by_cases h:dep=0
   · simp [tn,tsh,tl,h] at hr;exact .inl ⟨h,hr⟩
   · simp [tn,tsh,tl,h] at hr;exact .inr ⟨by omega,hr⟩
 clear hr
 have hvar:r=0∨r=1→∃(e:Ex) (fk fa fg:Bool) (j:Nat),(aP AP).i 247 [.aX tm 0,.pv (.aD (ds.map Dt.pv)),.pv (vI dep)] (TP i) []=some ([.agg (dZ fk fa fg e)],TP j,[])∧fC ds dep e∧j≤L.length:=by
   intro h
   obtain ⟨s,j,e2,hs,hj⟩:=F5 hT hL hj1
   try simp [tn,tsh,tl] at e2
   refine ⟨⟨1,0,s,0,[],[],bN⟩,true,true,true,j,?_,.var hs,hj⟩
   rw [aK (af:=g247) rfl (by simp [tn,tsh,tl,g247])]
   rcases h with rfl | rfl<;>rcases hd with ⟨rfl,h2⟩ | ⟨h1,rfl⟩
   · simp [tn,tsh,tl,g247,e1,h2,e2,dZ,fQ,bN]
   · simp [tn,tsh,tl,g247,e1,h1,e2,dZ,fQ,bN]
   · simp [tn,tsh,tl,g247,e1,h2,e2,dZ,fQ,bN]
   · simp [tn,tsh,tl,g247,e1,h1,e2,dZ,fQ,bN]
 rcases hcase with rfl | rfl | rfl | rfl | rfl
 · exact hvar (.inl rfl)
 · exact hvar (.inr rfl)
 · obtain ⟨m,j,e2,m0,m4,hj⟩:=mz hT hL hj1 (n:=4) (by omega) (by omega)
   try simp [tn,tsh,tl] at e2
   refine ⟨⟨3,0,[],m,[],[],bN⟩,true,true,true,j,?_,.int m0 m4,hj⟩
   rw [aK (af:=g247) rfl (by simp [tn,tsh,tl,g247])]
   rcases hd with ⟨rfl,h2⟩ | ⟨h1,rfl⟩
   · simp [tn,tsh,tl,g247,e1,h2,e2,dZ,fQ,bN]
   · simp [tn,tsh,tl,g247,e1,h1,e2,dZ,fQ,bN]
 · by_cases h0:ds=[]
   · subst h0
     refine ⟨⟨2,0,[71,111,110,101],0,[],[],bN⟩,true,true,true,j1,?_,.gone,hj1⟩
     rw [aK (af:=g247) rfl (by simp [tn,tsh,tl,g247])]
     rcases hd with ⟨rfl,h2⟩ | ⟨h1,rfl⟩
     · simp [tn,tsh,tl,g247,e1,h2,dZ,fQ,bN]
     · simp [tn,tsh,tl,g247,e1,h1,dZ,fQ,bN]
   · have hp:0<ds.length:=List.length_pos_iff.2 h0
     obtain ⟨n,j2,e2,n0,n1,hj2⟩:=mz hT hL hj1 (n:=ds.length) (by omega) (by omega)
     obtain ⟨m,rfl,hm⟩:=jS n0 n1
     obtain ⟨d,hx⟩:=bp hm
     obtain ⟨_,hc0,hc8,_⟩:=hD d (bm hx)
     obtain ⟨n',j3,e3,n0',n1',hj3⟩:=mz hT hL hj2 (n:=d.cons.length) (by omega) (by omega)
     obtain ⟨m',rfl,hm'⟩:=jS n0' n1'
     obtain ⟨c,hy⟩:=bp hm'
     try simp [tn,tsh,tl] at e2 e3
     refine ⟨⟨2,0,c.name,0,[],[],bN⟩,true,true,true,j3,?_,.gq (bm hx) (bm hy),hj3⟩
     rw [aK (af:=g247) rfl (by simp [tn,tsh,tl,g247])]
     rcases hd with ⟨rfl,h2⟩ | ⟨h1,rfl⟩
     · simp [tn,tsh,tl,-getElem?_pos,g247,e1,h2,e2,e3,hp,hx,hy,dZ,fQ,bN]
     · simp [tn,tsh,tl,-getElem?_pos,g247,e1,h1,e2,e3,hp,hx,hy,dZ,fQ,bN]
 · refine ⟨⟨10,0,[],0,[],[],bN⟩,true,true,true,j1,?_,.hole,hj1⟩
   rw [aK (af:=g247) rfl (by simp [tn,tsh,tl,g247])]
   rcases hd with ⟨rfl,h2⟩ | ⟨h1,rfl⟩
   · simp [tn,tsh,tl,g247,e1,h2,dZ,fQ,bN]
   · simp [tn,tsh,tl,g247,e1,h1,dZ,fQ,bN]
theorem F6 {L:List Int} {tm:Nat} {TP:Int→Sh} (hT:Tape L tm TP) (hL:Sm L) {ds:List Dt} (hds:ds.length≤8) (hD:∀d∈ds,D8 d) {dep:Nat} (hdep:dep<1000) (hg:pY L tm TP ds dep) {i j1:Nat} {k:Int} (hj1:j1≤L.length)
   (e1:(aP AP).i 68 [.aX tm 0,.pv (vI 14)] (TP i) []=some ([.pv (vI k)],TP j1,[])) (k5:5≤k) (k12:k≤12) :
   ∃(e:Ex) (fk fa fg:Bool) (j:Nat),(aP AP).i 247 [.aX tm 0,.pv (.aD (ds.map Dt.pv)),.pv (vI (dep+1:Nat))] (TP i) []=some ([.agg (dZ fk fa fg e)],TP j,[])∧fC ds (dep+1) e∧j≤L.length:=by
 have tn:=hT.norm
 have tsh:=hT.shift
 have tl:=hT.take
 try simp [tn,tsh,tl] at e1
 have h1:¬((dep:Int)+1<1):=by omega
 have h2:(dep:Int)+1-1=dep:=by omega
 have hc:k=5∨k=6∨k=7∨k=8∨k=9∨k=10∨k=11∨k=12:=by omega
 have hlam:k=5∨k=6→∃(e:Ex) (fk fa fg:Bool) (j:Nat),(aP AP).i 247 [.aX tm 0,.pv (.aD (ds.map Dt.pv)),.pv (vI (dep+1:Nat))] (TP i) []=some ([.agg (dZ fk fa fg e)],TP j,[])∧fC ds (dep+1) e∧j≤L.length:=by
   intro h
   obtain ⟨s,j2,e2,hs,hj2⟩:=F5 hT hL hj1
   obtain ⟨a,f1,f2,f3,j3,e3,ha,hj3⟩:=hg j2 hj2
   have hA:=dY f1 f2 f3 a
   generalize dZ f1 f2 f3 a=A at e3 hA
   try simp [tn,tsh,tl] at e2 e3
   refine ⟨⟨4,0,s,0,[a],[],bN⟩,true,true,true,j3,?_,.lam hs ha,hj3⟩
   rw [aK (af:=g247) rfl (by simp [tn,tsh,tl,g247])]
   have ac:=Ex.bA a
   rcases h with rfl | rfl<;>simp (disch:=omega) [tn,tsh,tl,g247,e1,h1,h2,au,e2,e3,hA.de,hA.flat,hA.g_,hA.len,hA.leaf,ac,dZ,fQ,bN]
 have happ:k=7∨k=8∨k=9→∃(e:Ex) (fk fa fg:Bool) (j:Nat),(aP AP).i 247 [.aX tm 0,.pv (.aD (ds.map Dt.pv)),.pv (vI (dep+1:Nat))] (TP i) []=some ([.agg (dZ fk fa fg e)],TP j,[])∧fC ds (dep+1) e∧j≤L.length:=by
   intro h
   obtain ⟨a,f1,f2,f3,j2,e2,ha,hj2⟩:=hg j1 hj1
   obtain ⟨b,f4,f5,f6,j3,e3,hb,hj3⟩:=hg j2 hj2
   have hA:=dY f1 f2 f3 a
   generalize dZ f1 f2 f3 a=A at e2 hA
   have hB:=dY f4 f5 f6 b
   generalize dZ f4 f5 f6 b=B at e3 hB
   try simp [tn,tsh,tl] at e2 e3
   refine ⟨⟨5,0,[],0,[a,b],[],bN⟩,true,true,true,j3,?_,.app ha hb,hj3⟩
   rw [aK (af:=g247) rfl (by simp [tn,tsh,tl,g247])]
   have ac:=Ex.bA a
   have bc:=Ex.bA b
   have tA:A.take 11=A:=List.take_of_length_le (by rw [hA.len];omega)
   rcases h with rfl | rfl | rfl<;>simp (disch:=omega) [tn,tsh,tl,g247,e1,h1,h2,au,e2,e3,hA.de,hA.flat,hA.g_,hA.len,hA.leaf,hB.de,hB.flat,hB.g_,hB.len,hB.leaf,tA,ac,bc,aJ,dZ,fQ,bN]
 rcases hc with h | h | h | h | h | rfl | rfl | rfl
 · exact hlam (.inl h)
 · exact hlam (.inr h)
 · exact happ (.inl h)
 · exact happ (.inr (.inl h))
 · exact happ (.inr (.inr h))
 · obtain ⟨r,j2,e2,r0,r1,hj2⟩:=mz hT hL hj1 (n:=2) (by omega) (by omega)
   obtain ⟨s,j3,e3,hs,hj3⟩:=F5 hT hL hj2
   obtain ⟨a,f1,f2,f3,j4,e4,ha,hj4⟩:=hg j3 hj3
   obtain ⟨b,f4,f5,f6,j5,e5,hb,hj5⟩:=hg j4 hj4
   have hA:=dY f1 f2 f3 a
   generalize dZ f1 f2 f3 a=A at e4 hA
   have hB:=dY f4 f5 f6 b
   generalize dZ f4 f5 f6 b=B at e5 hB
   try simp [tn,tsh,tl] at e2 e3 e4 e5
   have ac:=Ex.bA a
   have bc:=Ex.bA b
   have tA:A.take 11=A:=List.take_of_length_le (by rw [hA.len];omega)
   have hk:6+r=6∨6+r=7:=by omega
   refine ⟨⟨6+r,0,s,0,[a,b],[],bN⟩,true,true,true,j5,?_,.PL hk hs ha hb,hj5⟩
   rw [aK (af:=g247) rfl (by simp [tn,tsh,tl,g247])]
   simp (disch:=omega) [tn,tsh,tl,g247,e1,h1,h2,au,e2,e3,e4,e5,hA.de,hA.flat,hA.g_,hA.len,hA.leaf,hB.de,hB.flat,hB.g_,hB.len,hB.leaf,tA,ac,bc,aJ,dZ,fQ,bN]
 · obtain ⟨a,f1,f2,f3,j2,e2,ha,hj2⟩:=hg j1 hj1
   have hA:=dY f1 f2 f3 a
   generalize dZ f1 f2 f3 a=A at e2 hA
   obtain ⟨t,j3,e3,ht,hj3⟩:=NZ hT hL (ds:=ds) (by omega) (fun d hd=>(hD d hd).1) (lv:=[]) (by simp [tn,tsh,tl,Sm]) 2 (by omega) j2 hj2
   simp [tn,tsh,tl,Ty.av] at e2 e3
   have ac:=Ex.bA a
   refine ⟨⟨9,0,[],0,[a],[],t⟩,true,true,false,j3,?_,.Q' ha ht,hj3⟩
   rw [aK (af:=g247) rfl (by simp [tn,tsh,tl,g247])]
   simp (disch:=omega) [tn,tsh,tl,g247,e1,h1,h2,au,e2,e3,hA.de,hA.flat,hA.g_,hA.len,hA.leaf,ac,dZ,fQ,bN]
 · obtain ⟨a,f1,f2,f3,j2,e2,ha,hj2⟩:=hg j1 hj1
   have hA:=dY f1 f2 f3 a
   generalize dZ f1 f2 f3 a=A at e2 hA
   try simp [tn,tsh,tl] at e2
   have ac:=Ex.bA a
   refine ⟨⟨11,0,[],0,[a],[],bN⟩,true,true,true,j2,?_,.held ha,hj2⟩
   rw [aK (af:=g247) rfl (by simp [tn,tsh,tl,g247])]
   simp (disch:=omega) [tn,tsh,tl,g247,e1,h1,h2,au,e2,hA.de,hA.flat,hA.g_,hA.len,hA.leaf,ac,dZ,fQ,bN]
theorem JD {L:List Int} {tm:Nat} {TP:Int→Sh} (hT:Tape L tm TP) (hL:Sm L) {ds:List Dt} {dep:Nat} {d:Dt} {a:Ex} {as:List Ar} {ci:Nat} {c:gR} (hc:d.cons[ci]?=some c) (h8:c.fields.length≤8):∀(n k:Nat),c.fields.length-k=n→k≤c.fields.length→∀(vs:List bS) (i:Nat),vs.length=k→(∀v∈vs,v∈mr)→i≤L.length →
   ∃(r:List bS) (j:Nat),cl AP g247L1 ⟨[(0,.aX tm 0),(1,.pv (.aD (ds.map Dt.pv))),(2,.pv (vI (dep+1))),(6,.az 6 0),(13,.az 13 0),(14,.az 14 0),(15,.pv (vI ci)),(16,.az 16 0),(17,.pv (vI k))],
     [(6,m6),(13,pX d),(14,LN a as),(16,P4 c vs)],TP i,[0,0,0,1,as.length,0,vs.length,0,0,0]⟩ =
     some (.exit 3,⟨[(0,.aX tm 0),(1,.pv (.aD (ds.map Dt.pv))),(2,.pv (vI (dep+1))),(6,.az 6 0),(13,.az 13 0),(14,.az 14 0),(15,.pv (vI ci)),(16,.az 16 0),(17,.pv (vI c.fields.length)),(179,.pv (.bool false))],
     [(6,m6),(13,pX d),(14,LN a as),(16,P4 c r)],TP j,[0,0,0,1,as.length,0,r.length,0,0,0]⟩) ∧
     r.length=c.fields.length∧(∀v∈r,v∈mr)∧j≤L.length
 | 0,k,hn,hk,vs,i,hv,hm,hi=>by
   have tn:=hT.norm
   have tsh:=hT.shift
   have tl:=hT.take
   have:k=c.fields.length:=by omega
   subst this
   refine ⟨vs,i,?_,hv,hm,hi⟩
   have hcl:=(List.getElem?_eq_some_iff.1 hc).1
   rw [g247L1e]
   simp [tn,tsh,tl,-getElem?_pos,g247B1,m6,pX,LN,P4,hc,hcl]
 | n+1,k,hn,hk,vs,i,hv,hm,hi=>by
   have tn:=hT.norm
   have tsh:=hT.shift
   have tl:=hT.take
   have hk:k<c.fields.length:=by omega
   have hcl:=(List.getElem?_eq_some_iff.1 hc).1
   have hb:(vs.length+1)*16≤140737488355328:=by omega
   obtain ⟨s,j,e,hs,hj⟩:=F5 hT hL hi
   try simp [tn,tsh,tl] at e
   obtain ⟨r,j',e',hr,hm',hj'⟩:=JD hT hL hc h8 (a:=a) (as:=as) (ds:=ds) (dep:=dep) n (k+1) (by omega) (by omega) (vs++[s]) j (by simp;omega) (by
     intro x hx;simp at hx;rcases hx with hx | rfl
     · exact hm x hx
     · exact hs) hj
   refine ⟨r,j',?_,hr,hm',hj'⟩
   simp [tn,tsh,tl,m6,pX,LN,P4] at e' ⊢
   rw [g247L1e]
   simp (disch:=omega) [tn,tsh,tl,-getElem?_pos,g247B1,hc,hcl,hk,au,e,hb,aJ]
   exact e'
theorem JE {L:List Int} {tm:Nat} {TP:Int→Sh} (hT:Tape L tm TP) (hL:Sm L) {ds:List Dt} {dep:Nat} (hdep:dep<1000) (hg:pY L tm TP ds dep) {d:Dt} (hD:D8 d) {a:Ex}:∀(n k:Nat),d.cons.length-k=n→k≤d.cons.length→∀(as:List Ar) (i:Nat),as.length=k→BM ds dep d as→i≤L.length →
   ∃(r:List Ar) (j:Nat),cl AP g247L0 ⟨[(0,.aX tm 0),(1,.pv (.aD (ds.map Dt.pv))),(2,.pv (vI (dep+1))),(6,.az 6 0),(13,.az 13 0),(14,.az 14 0),(15,.pv (vI k))],
     [(6,m6),(13,pX d),(14,LN a as)],TP i,[0,0,0,1,as.length,0]⟩ =
     some (.exit 1,⟨[(0,.aX tm 0),(1,.pv (.aD (ds.map Dt.pv))),(2,.pv (vI (dep+1))),(6,.az 6 0),(13,.az 13 0),(14,.az 14 0),(15,.pv (vI d.cons.length)),(161,.pv (.bool false))],
     [(6,m6),(13,pX d),(14,LN a r)],TP j,[0,0,0,1,r.length,0]⟩) ∧
     r.length=d.cons.length∧BM ds dep d r∧j≤L.length
 | 0,k,hn,hk,as,i,ha,hm,hi=>by
   have tn:=hT.norm
   have tsh:=hT.shift
   have tl:=hT.take
   have:k=d.cons.length:=by omega
   subst this
   refine ⟨as,i,?_,ha,hm,hi⟩
   rw [g247L0e]
   simp [tn,tsh,tl,g247B0,m6,pX,LN]
 | n+1,k,hn,hk,as,i,ha,hm,hi=>by
   have tn:=hT.norm
   have tsh:=hT.shift
   have tl:=hT.take
   have hk:k<d.cons.length:=by omega
   obtain ⟨c,hc⟩:=bp hk
   obtain ⟨_,_,h8,hf⟩:=hD
   obtain ⟨vs,j,e,hv,hvm,hj⟩:=JD hT hL (ds:=ds) (dep:=dep) (a:=a) (as:=as) hc (hf c (bm hc)) _ 0 rfl (by omega) [] i rfl (by simp) hi
   obtain ⟨b,f1,f2,f3,j2,e2,hb,hj2⟩:=hg j hj
   have hB:=dY f1 f2 f3 b
   generalize dZ f1 f2 f3 b=B at e2 hB
   have bc:=Ex.bA b
   have tB:B.take 11=B:=List.take_of_length_le (by rw [hB.len];omega)
   have hbb:(as.length+1)*200≤140737488355328:=by omega
   have hm2:BM ds dep d (as++[⟨0,c.name,vs,b⟩]):=by
     refine ⟨?_,?_,?_⟩
     · intro x hx
       try simp [tn,tsh,tl] at hx
       rcases hx with hx | rfl
       · exact hm.1 x hx
       · exact hb
     · intro x hx
       try simp [tn,tsh,tl] at hx
       rcases hx with hx | rfl
       · exact hm.2.1 x hx
       · exact ⟨rfl,hvm⟩
     · intro i c' x h1 h2
       by_cases hlt:i<as.length
       · rw [List.getElem?_append_left hlt] at h2
         exact hm.2.2 i c' x h1 h2
       · rw [List.getElem?_append_right (by omega)] at h2
         have:i-as.length=0:=by
           have:=(List.getElem?_eq_some_iff.1 h2).1
           simpa using this
         have hik:i=k:=by omega
         subst hik
         rw [hc] at h1
         cases h1
         rw [this] at h2
         try simp [tn,tsh,tl] at h2
         subst h2
         exact ⟨rfl,hv⟩
   obtain ⟨r,j',e',hr,hm',hj'⟩:=JE hT hL hdep hg ⟨by assumption,by assumption,h8,hf⟩ (a:=a) n (k+1) (by omega) (by omega) (as++[⟨0,c.name,vs,b⟩]) j2 (by simp;omega) hm2 hj2
   refine ⟨r,j',?_,hr,hm',hj'⟩
   have hd1:(dep:Int)+1-1=dep:=by omega
   rw [g247L1e] at e
   rw [g247L0e] at e'
   simp [tn,tsh,tl,m6,pX,LN,P4] at e e' e2 ⊢
   rw [g247L0e]
   simp (disch:=omega) [tn,tsh,tl,-getElem?_pos,g247B0,hc,hk,au,hd1,g247L1e,e,e2,hbb,aJ,hB.de,hB.flat,hB.g_,hB.len,hB.leaf,tB,bc]
   rw [g247L0e]
   simp [tn,tsh,tl,e']
theorem F7 {L:List Int} {tm:Nat} {TP:Int→Sh} (hT:Tape L tm TP) (hL:Sm L) {ds:List Dt} (hds:ds.length≤8) (hD:∀d∈ds,D8 d) {dep:Nat} (hdep:dep<1000) (hg:pY L tm TP ds dep) {i j1:Nat} {k:Int} (hj1:j1≤L.length)
   (e1:(aP AP).i 68 [.aX tm 0,.pv (vI 14)] (TP i) []=some ([.pv (vI k)],TP j1,[])) (k13:k=13) :
   ∃(e:Ex) (fk fa fg:Bool) (j:Nat),(aP AP).i 247 [.aX tm 0,.pv (.aD (ds.map Dt.pv)),.pv (vI (dep+1:Nat))] (TP i) []=some ([.agg (dZ fk fa fg e)],TP j,[])∧fC ds (dep+1) e∧j≤L.length:=by
 have tn:=hT.norm
 have tsh:=hT.shift
 have tl:=hT.take
 subst k13
 try simp [tn,tsh,tl] at e1
 have h1:¬((dep:Int)+1<1):=by omega
 have h2:(dep:Int)+1-1=dep:=by omega
 by_cases h0:ds=[]
 · subst h0
   obtain ⟨a,f1,f2,f3,j2,e2,ha,hj2⟩:=hg j1 hj1
   refine ⟨a,f1,f2,f3,j2,?_,.up ha,hj2⟩
   rw [aK (af:=g247) rfl (by simp [tn,tsh,tl,g247])]
   cases f1<;>cases f2<;>cases f3<;>simp [tn,tsh,tl,dZ,fQ] at e2<;>simp (disch:=omega) [tn,tsh,tl,g247,e1,h1,h2,au,e2,dZ,fQ,aJ]
 · have hp:0<ds.length:=List.length_pos_iff.2 h0
   obtain ⟨r,j2,e2,r0,r1,hj2⟩:=mz hT hL hj1 (n:=ds.length) (by omega) (by omega)
   obtain ⟨m,rfl,hm⟩:=jS r0 r1
   obtain ⟨d,hx⟩:=bp hm
   have hDd:=hD d (bm hx)
   obtain ⟨a,f1,f2,f3,j3,e3,ha,hj3⟩:=hg j2 hj2
   have hA:=dY f1 f2 f3 a
   generalize dZ f1 f2 f3 a=A at e3 hA
   have ac:=Ex.bA a
   obtain ⟨as,j4,e4,hal,hao,hj4⟩:=JE hT hL hdep hg hDd (a:=a) _ 0 rfl (by omega) [] j3 rfl ⟨by simp,by simp,by simp⟩ hj3
   try simp [tn,tsh,tl] at e2 e3
   refine ⟨⟨8,0,[],0,[a],as,bN⟩,false,false,false,j4,?_,.Mo (bm hx) ha hal hao.1 hao.2.1 hao.2.2,hj4⟩
   rw [aK (af:=g247) rfl (by simp [tn,tsh,tl,g247])]
   rw [g247L0e] at e4
   simp [tn,tsh,tl,m6,pX,LN] at e4
   simp (disch:=omega) [tn,tsh,tl,-getElem?_pos,g247,e1,h1,h2,h0,au,e2,e3,hp,hx,hA.de,hA.flat,hA.g_,hA.len,hA.leaf,ac,g247L0e,e4,aJ,dZ,fQ,bN]
theorem P8 {L:List Int} {tm:Nat} {TP:Int→Sh} (hT:Tape L tm TP) (hL:Sm L) {ds:List Dt} (hds:ds.length≤8) (hD:∀d∈ds,D8 d):∀dep:Nat,dep<1000→pY L tm TP ds dep
 | 0,_=>fun i hi=>by
   have tn:=hT.norm
   have tsh:=hT.shift
   have tl:=hT.take
   obtain ⟨k,j1,e1,k0,k14,hj1⟩:=mz hT hL hi (n:=14) (by omega) (by omega)
   exact tv hT hL hds hD hj1 e1 k0 (by simp)
 | dep+1,h=>fun i hi=>by
   have tn:=hT.norm
   have tsh:=hT.shift
   have tl:=hT.take
   obtain ⟨k,j1,e1,k0,k14,hj1⟩:=mz hT hL hi (n:=14) (by omega) (by omega)
   have hg:=P8 hT hL hds hD dep (by omega)
   by_cases h5:k<5
   · exact tv hT hL hds hD hj1 e1 k0 (by simpa using h5)
   · by_cases h12:k≤12
     · exact F6 hT hL hds hD (by omega) hg hj1 e1 (by omega) h12
     · exact F7 hT hL hds hD (by omega) hg hj1 e1 (by omega)
end Go.Ab.Lw
namespace Go.Ab.Lw
open Ev
theorem h_:bN.Ok:=cO rfl
end Go.Ab.Lw
namespace Go.Ab.Lw
open Ev
structure u_ (n:Nat) (e:Ex):Prop where
 sc:xU e
 h:e.vd n
theorem kS {n m:Nat} {e:Ex} (h:e.vd n):n≤m→e.vd m:=by
 induction h generalizing m with
 | mk _ ih=>
   intro hm
   obtain ⟨k,rfl⟩:∃k,m=k+1:=⟨m-1,by omega⟩
   exact .mk fun x hx=>ih x hx (by omega)
theorem u_.up {n m:Nat} {e:Ex} (h:u_ n e) (hm:n≤m):u_ m e:=⟨h.sc,kS h.h hm⟩
theorem ia:bN.Cw:=⟨fun _=>rfl,by simp [bN]⟩
theorem ew {n:Nat} {k:Int} {s:bS} {m:Int} {l:List Ex} {t:Ty} (hk:k≠8) (hl:l.length≤1000) (ht:t.Ok) (hc:t.Cw) (hx:∀x∈l,u_ n x):u_ (n+1) ⟨k,0,s,m,l,[],t⟩:=
 ⟨⟨.mk hl (by simp) (by simp) ht (by simpa [Ex.ch] using fun x h=>(hx x h).sc.ok),.mk (fun h=>absurd h hk) (by simpa [Ex.ch] using fun x h=>(hx x h).sc.one),.mk hc (by simpa [Ex.ch] using fun x h=>(hx x h).sc.cw)⟩,.mk (by simpa [Ex.ch] using fun x h=>(hx x h).h)⟩
theorem d7 {k:Int} {s:bS} {m:Int} (hk:k≠8):u_ 1 ⟨k,0,s,m,[],[],bN⟩:=ew (n:=0) hk (by simp) h_ ia (by simp)
theorem N0 {L:List Int} {tm:Nat} {TP:Int→Sh} (hT:Tape L tm TP) {I:Nat} {g:Ty} (hg:cb g) {E:List En} (hE:E.length≤10000) (hc:∀x∈E,kh x.sc):∀(n i:Nat),E.length-i=n→i≤E.length→∀acc:List bS,acc.length≤i →
   ∃fs:List bS,fs.length≤E.length∧cl AP g348L0 ⟨[(0,.aX tm 0),(7,.az 7 0),(8,.az 8 0),(9,.own (acc.map .str) 0),(10,.pv (.aD (E.map En.pv))),(11,.pv (vI i))],[(7,tC g),(8,nk 1)],TP I,[acc.length,0,0,0]⟩ =
     some (.exit 0,⟨[(0,.aX tm 0),(7,.az 7 0),(8,.az 8 0),(9,.own (fs.map .str) 0),(10,.pv (.aD (E.map En.pv))),(11,.pv (vI E.length)),(19,.pv (.bool false))],[(7,tC g),(8,nk 1)],TP I,[fs.length,0,0,0]⟩)
 | 0,i,hn,hi,acc,ha=>by
   have tn:=hT.norm
   have tsh:=hT.shift
   have tl:=hT.take
   have:i=E.length:=by omega
   subst this
   refine ⟨acc,ha,?_⟩
   rw [g348L0e]
   simp [tn,tsh,tl,g348B0,tC,nk]
 | n+1,i,hn,hi,acc,ha=>by
   have tn:=hT.norm
   have tsh:=hT.shift
   have tl:=hT.take
   have hi:i<E.length:=by omega
   obtain ⟨x,hx⟩:=bp hi
   obtain ⟨K,q1,q2,q3⟩:=(hc x (bm hx)).P3
   have k:=c238 (N:=K) (by omega) (p:=x.sc.ty) hg.ok q3
   have hb:(acc.length+1)*16≤140737488355328:=by omega
   cases hI:Jy K x.sc.ty g with
   | none=>
     obtain ⟨fs,h1,e'⟩:=N0 hT (L:=L) (I:=I) hg hE hc n (i+1) (by omega) (by omega) acc (by omega)
     refine ⟨fs,h1,?_⟩
     rw [hI] at k
     rw [g348L0e] at e' ⊢
     simp [tn,tsh,tl,tC,nk] at e'
     simp [tn,tsh,tl,rI] at k
     simp (disch:=omega) [tn,tsh,tl,-getElem?_pos,g348B0,tC,nk,hx,hi,q1,k,au]
     rw [g348L0e]
     simp [tn,tsh,tl,e']
   | some l=>
     obtain ⟨fs,h1,e'⟩:=N0 hT (L:=L) (I:=I) hg hE hc n (i+1) (by omega) (by omega) (acc++[x.name]) (by simp;omega)
     refine ⟨fs,h1,?_⟩
     rw [hI] at k
     rw [g348L0e] at e' ⊢
     simp [tn,tsh,tl,tC,nk] at e'
     simp [tn,tsh,tl,rI] at k
     simp (disch:=omega) [tn,tsh,tl,-getElem?_pos,g348B0,tC,nk,hx,hi,q1,k,hb,au]
     rw [g348L0e]
     simp [tn,tsh,tl,e']
def lF (L:List Int) (tm:Nat) (TP:Int→Sh) (n:Nat) (r:Option (List AV×Sh×aL)):Prop:=∃(e:Ex) (fk fa fg:Bool) (j:Nat),r=some ([.agg (dZ fk fa fg e)],TP j,[])∧u_ n e∧j≤L.length
structure Ctx (n:Nat) (l:List En):Prop where
 len:l.length≤n
 P9:∀x∈l,kh x.sc
theorem c348 {L:List Int} {tm:Nat} {TP:Int→Sh} (hT:Tape L tm TP) (hL:Sm L) {ds:List Dt} {l:List En} (hl:Ctx 10000 l) {g:Ty} (hg:cb g) {i:Nat} (hi:i≤L.length) :
   lF L tm TP 1 ((aP AP).i 348 [.aX tm 0,.pv (.aD (ds.map Dt.pv)),.pv (.aD (l.map En.pv)),.pv g.pv] (TP i) []):=by
 have tn:=hT.norm
 have tsh:=hT.shift
 have tl:=hT.take
 have hsl:=rh l
 have hll:=hl.len
 have k1:=c201 (l:=l) (by unfold Sm;omega)
 obtain ⟨fs,hf,e⟩:=N0 hT (L:=L) (I:=i) hg (E:=dr l) (by omega) (fun x hx=>hl.P9 x (rf l x hx)) _ 0 rfl (by omega) [] (by simp)
 generalize dr l=E at *
 have k2:=c20 (a:=g) (b:=br) hg.ok
 have k3:=c34
 rw [g348L0e] at e
 simp [tn,tsh,tl,tC,nk] at e k1 k3
 have tail:∀j,j≤L.length→(g=br∧∃r j1,0≤r∧j1≤L.length∧(aP AP).i 68 [.aX tm 0,.pv (vI 4)] (TP j) []=some ([.pv (vI r)],TP j1,[]))∨¬g=br:=by
   intro j hj
   by_cases q:g=br
   · obtain ⟨r,j1,e1,r0,_,hj1⟩:=mz hT hL hj (n:=4) (by omega) (by omega)
     exact .inl ⟨q,r,j1,r0,hj1,e1⟩
   · exact .inr q
 by_cases hfs:fs=[]
 · subst hfs
   try simp [tn,tsh,tl] at e
   rcases tail i hi with ⟨q,r,j1,r0,hj1,e1⟩ | q
   · rw [decide_eq_true q] at k2
     subst q
     try simp [tn,tsh,tl] at k2 e1
     by_cases hr:0<r
     · obtain ⟨m,j2,e2,m0,m1,hj2⟩:=mz hT hL hj1 (n:=3) (by omega) (by omega)
       refine ⟨⟨3,0,[],m,[],[],bN⟩,true,true,true,j2,?_,d7 (by decide),hj2⟩
       try simp [tn,tsh,tl] at e2
       simp [tn,tsh,tl,br] at k2 k3 e
       rw [aK (af:=g348) rfl (by simp [tn,tsh,tl,g348])]
       simp [tn,tsh,tl,g348,k1,g348L0e,e,k3,k2,e1,hr,e2,dZ,fQ,bN,br]
     · refine ⟨⟨10,0,[],0,[],[],bN⟩,true,true,true,j1,?_,d7 (by decide),hj1⟩
       simp [tn,tsh,tl,br] at k2 k3 e
       rw [aK (af:=g348) rfl (by simp [tn,tsh,tl,g348])]
       simp [tn,tsh,tl,g348,k1,g348L0e,e,k3,k2,e1,hr,dZ,fQ,bN,br]
   · rw [decide_eq_false q] at k2
     refine ⟨⟨10,0,[],0,[],[],bN⟩,true,true,true,i,?_,d7 (by decide),hi⟩
     simp [tn,tsh,tl,br] at k2 k3
     rw [aK (af:=g348) rfl (by simp [tn,tsh,tl,g348])]
     simp [tn,tsh,tl,g348,k1,g348L0e,e,k3,k2,dZ,fQ,bN,br]
 · have hp:0<fs.length:=List.length_pos_iff.2 hfs
   obtain ⟨r6,j6,e6,r60,_,hj6⟩:=mz hT hL hi (n:=6) (by omega) (by omega)
   try simp [tn,tsh,tl] at e6
   by_cases h6:0<r6
   · obtain ⟨m,j7,e7,m0,m1,hj7⟩:=mz hT hL hj6 (n:=fs.length) (by omega) (by omega)
     obtain ⟨m,rfl,hm⟩:=jS m0 m1
     obtain ⟨s,hs⟩:=bp hm
     refine ⟨⟨1,0,s,0,[],[],bN⟩,true,true,true,j7,?_,d7 (by decide),hj7⟩
     try simp [tn,tsh,tl] at e7
     rw [aK (af:=g348) rfl (by simp [tn,tsh,tl,g348])]
     simp [tn,tsh,tl,-getElem?_pos,g348,k1,g348L0e,e,hp,e6,h6,e7,hs,dZ,fQ,bN]
   · rcases tail j6 hj6 with ⟨q,r,j1,r0,hj1,e1⟩ | q
     · rw [decide_eq_true q] at k2
       subst q
       try simp [tn,tsh,tl] at k2 e1
       by_cases hr:0<r
       · obtain ⟨m,j2,e2,m0,m1,hj2⟩:=mz hT hL hj1 (n:=3) (by omega) (by omega)
         refine ⟨⟨3,0,[],m,[],[],bN⟩,true,true,true,j2,?_,d7 (by decide),hj2⟩
         try simp [tn,tsh,tl] at e2
         simp [tn,tsh,tl,br] at k2 k3 e
         rw [aK (af:=g348) rfl (by simp [tn,tsh,tl,g348])]
         simp [tn,tsh,tl,g348,k1,g348L0e,e,hp,e6,h6,k3,k2,e1,hr,e2,dZ,fQ,bN,br]
       · refine ⟨⟨10,0,[],0,[],[],bN⟩,true,true,true,j1,?_,d7 (by decide),hj1⟩
         simp [tn,tsh,tl,br] at k2 k3 e
         rw [aK (af:=g348) rfl (by simp [tn,tsh,tl,g348])]
         simp [tn,tsh,tl,g348,k1,g348L0e,e,hp,e6,h6,k3,k2,e1,hr,dZ,fQ,bN,br]
     · rw [decide_eq_false q] at k2
       refine ⟨⟨10,0,[],0,[],[],bN⟩,true,true,true,j6,?_,d7 (by decide),hj6⟩
       simp [tn,tsh,tl,br] at k2 k3
       rw [aK (af:=g348) rfl (by simp [tn,tsh,tl,g348])]
       simp [tn,tsh,tl,g348,k1,g348L0e,e,hp,e6,h6,k3,k2,dZ,fQ,bN,br]
end Go.Ab.Lw
namespace Go.Ab.Lw
open Ev
def jf (L:List Int) (tm:Nat) (TP:Int→Sh) (ds:List Dt) (dep:Nat):Prop:=∀(i:Nat) (l:List En) (g:Ty),i≤L.length→Ctx (1000-20*dep) l→cb g →
 lF L tm TP (12*(dep+1)) ((aP AP).i 326 [.aX tm 0,.pv (.aD (ds.map Dt.pv)),.pv (.aD (l.map En.pv)),.pv g.pv,.pv (vI dep)] (TP i) [])
theorem Ctx.push {n m:Nat} {l:List En} (h:Ctx n l) {s:bS} {c:Sc} (hc:kh c) (hm:n+1≤m):Ctx m (l++[⟨s,c⟩]):=⟨by have:=h.len;simp;omega,by
 intro x hx;simp at hx;rcases hx with hx | rfl
 · exact h.P9 x hx
 · exact hc⟩
theorem Ctx.gB {n m:Nat} {l:List En} (h:Ctx n l) (hm:n≤m):Ctx m l:=⟨by have:=h.len;omega,h.P9⟩
theorem jZ {D:Dt→Prop} (hD:∀d,D d→d.params.length≤8) {lv:List Ty} (h:∀t∈lv,t.args=[]∧t.kind=3) {n:Nat} {t:Ty} (m:gm D lv n t):cb t:=by
 refine ⟨m.ok hD (fun t ht=>(h t ht).1),?_⟩
 induction m with
 | leaf hl=>exact .bare (h _ hl).1 (fun _=>by rw [(h _ hl).2];simp)
 | int=>exact .bare rfl (by simp [br])
 | gq _ _ _ ih=>exact .mk (by simp) ih
 | arrow _ _ iha ihb=>exact .mk (by simp) (by intro x hx;simp at hx;rcases hx with rfl | rfl<;>assumption)
theorem cb.arrow {a b:Ty} (ha:cb a) (hb:cb b):cb ⟨4,[45,62],0,0,[a,b]⟩:=⟨⟨by simp [Sm],by intro x hx;simp at hx;rcases hx with rfl | rfl;exact ha.ok;exact hb.ok⟩,.mk (by simp) (by intro x hx;simp at hx;rcases hx with rfl | rfl;exact ha.kn;exact hb.kn)⟩
variable {L: List Int}  {tm:Nat} {TP:Int→Sh} {ds:List Dt} {dep:Nat} {l:List En} {g:Ty} {i:Nat}
def rM (L:List Int) (tm:Nat) (TP:Int→Sh) (ds:List Dt) (dep:Nat) (l:List En) (g:Ty) (i:Nat):Prop:=
 lF L tm TP (12*(dep+1)) ((aP AP).i 326 [.aX tm 0,.pv (.aD (ds.map Dt.pv)),.pv (.aD (l.map En.pv)),.pv g.pv,.pv (vI dep)] (TP i) [])
theorem JF (hT:Tape L tm TP) (hL:Sm L) (hl:Ctx 10000 l) (hg:cb g) (hi:i≤L.length):rM L tm TP ds 0 l g i:=by
 have tn:=hT.norm
 have tsh:=hT.shift
 have tl:=hT.take
 obtain ⟨e,f1,f2,f3,j,k,ht,hj⟩:=c348 hT hL (ds:=ds) hl hg hi
 refine ⟨e,f1,f2,f3,j,?_,ht.up (by omega),hj⟩
 rw [aK (af:=g326) rfl (by simp [tn,tsh,tl,g326])]
 cases f1<;>cases f2<;>cases f3<;>simp [tn,tsh,tl,dZ,fQ] at k<;>simp [tn,tsh,tl,g326,k,dZ,fQ,aJ]
theorem LO (hT:Tape L tm TP) (hL:Sm L) (hdep:dep<100) (hl:Ctx 10000 l) (hg:cb g) {j9:Nat} (hj9:j9≤L.length) (e9:(aP AP).i 68 [.aX tm 0,.pv (vI 9)] (TP i) []=some ([.pv (vI 0)],TP j9,[])):rM L tm TP ds (dep+1) l g i:=by
 have tn:=hT.norm
 have tsh:=hT.shift
 have tl:=hT.take
 obtain ⟨e,f1,f2,f3,j,k,ht,hj⟩:=c348 hT hL (ds:=ds) hl hg hj9
 refine ⟨e,f1,f2,f3,j,?_,ht.up (by omega),hj⟩
 have h1:¬((dep:Int)+1<1):=by omega
 try simp [tn,tsh,tl] at e9
 rw [aK (af:=g326) rfl (by simp [tn,tsh,tl,g326])]
 cases f1<;>cases f2<;>cases f3<;>simp [tn,tsh,tl,dZ,fQ] at k<;>simp [tn,tsh,tl,g326,h1,e9,k,dZ,fQ,aJ]
structure JG (L:List Int) (tm:Nat) (TP:Int→Sh) (g:Ty) (i:Nat) (a b:Ty) (ar:Bool) (k r9:Int) (j9 j:Nat):Prop where
 nz:¬r9=0
 e9:(aP AP).i 68 [.aX tm 0,.pv (vI 9)] (TP i) []=some ([.pv (vI r9)],TP j9,[])
 arr:(aP AP).p 194 [g.pv]=some [a.pv,b.pv,.bool ar]
 mA:(aP AP).i 68 [.aX tm 0,.pv (vI 10)] (TP j9) []=some ([.pv (vI k)],TP j,[])
 hj:j≤L.length
theorem N1 (hT:Tape L tm TP) (hL:Sm L) (hdep:dep<10) (hG:jf L tm TP ds dep) (hl:Ctx (1000-20*(dep+1)) l) {a b:Ty} {k r9:Int} {j9 j:Nat} (P:JG L tm TP g i a b true k r9 j9 j) (hk:k<7) (ha:cb a) (hb:cb b):rM L tm TP ds (dep+1) l g i:=by
 have tn:=hT.norm
 have tsh:=hT.shift
 have tl:=hT.take
 obtain ⟨nz,e9,arr,mA,hj⟩:=P
 obtain ⟨s,j1,e1,hs,hj1⟩:=F5 hT hL hj
 have hll:=hl.len
 have k1:=c176 (t:=a)
 have k2:=c179 (l:=l) (by unfold Sm;omega) (n:=s) (c:=⟨0,a⟩)
 obtain ⟨e,f1,f2,f3,j2,e2,he,hj2⟩:=hG j1 (l++[⟨s,⟨0,a⟩⟩]) b hj1 (hl.push ha.mono (by omega)) hb
 have hA:=dY f1 f2 f3 e
 generalize dZ f1 f2 f3 e=A at e2 hA
 have ac:=Ex.bA e
 refine ⟨⟨4,0,s,0,[e],[],bN⟩,true,true,true,j2,?_,(ew (by decide) (by simp) h_ ia (by simpa using he)).up (by omega),hj2⟩
 have h1:¬((dep:Int)+1<1):=by omega
 have h2:(dep:Int)+1-1=dep:=by omega
 try simp [tn,tsh,tl] at e9 arr mA e1 k1 k2 e2
 rw [aK (af:=g326) rfl (by simp [tn,tsh,tl,g326])]
 simp (disch:=omega) [tn,tsh,tl,g326,h1,h2,nz,e9,arr,mA,hk,e1,k1,k2,e2,au,hA.de,hA.flat,hA.g_,hA.len,hA.leaf,ac,dZ,fQ,bN]
theorem N2 (hT:Tape L tm TP) (hL:Sm L) (hdep:dep<10) (hds:ds.length≤20) (hda:∀d∈ds,d.params.length≤8) (hG:jf L tm TP ds dep) (hl:Ctx (1000-20*(dep+1)) l) (hg:cb g) {a b:Ty} {k r9:Int} {j9 j:Nat} (P:JG L tm TP g i a b false k r9 j9 j) (hk:k<2):rM L tm TP ds (dep+1) l g i:=by
 have tn:=hT.norm
 have tsh:=hT.shift
 have tl:=hT.take
 obtain ⟨nz,e9,arr,mA,hj⟩:=P
 obtain ⟨t,j1,e1,mt,hj1⟩:=NZ hT hL hds hda (lv:=[]) (by simp [tn,tsh,tl,Sm]) 1 (by omega) j hj
 have gt:cb t:=jZ hda (by simp) mt
 have k1:=c69 (a:=t) (b:=g)
 have hl':Ctx (1000-20*dep) l:=hl.gB (by omega)
 obtain ⟨x,f1,f2,f3,j2,e2,hx,hj2⟩:=hG j1 l _ hj1 hl' (gt.arrow hg)
 obtain ⟨y,f4,f5,f6,j3,e3,hy,hj3⟩:=hG j2 l _ hj2 hl' gt
 have hA:=dY f1 f2 f3 x
 generalize dZ f1 f2 f3 x=A at e2 hA
 have hB:=dY f4 f5 f6 y
 generalize dZ f4 f5 f6 y=B at e3 hB
 have ac:=Ex.bA x
 have bc:=Ex.bA y
 have tA:A.take 11=A:=List.take_of_length_le (by rw [hA.len];omega)
 refine ⟨⟨5,0,[],0,[x,y],[],bN⟩,true,true,true,j3,?_,(ew (by decide) (by simp) h_ ia (by simpa using ⟨hx,hy⟩)).up (by omega),hj3⟩
 have h1:¬((dep:Int)+1<1):=by omega
 have h2:(dep:Int)+1-1=dep:=by omega
 simp [tn,tsh,tl,Ty.av] at e9 arr mA e1 k1 e2 e3
 rw [aK (af:=g326) rfl (by simp [tn,tsh,tl,g326])]
 simp (disch:=omega) [tn,tsh,tl,g326,h1,h2,nz,e9,arr,mA,hk,e1,k1,e2,e3,au,hA.de,hA.flat,hA.g_,hA.len,hA.leaf,hB.de,hB.flat,hB.g_,hB.len,hB.leaf,tA,ac,bc,aJ,dZ,fQ,bN]
theorem N3 (hT:Tape L tm TP) (hL:Sm L) (hdep:dep<10) (hG:jf L tm TP ds dep) (hl:Ctx (1000-20*(dep+1)) l) (hg:cb g) {a b:Ty} {r9:Int} {j9 j:Nat} (P:JG L tm TP g i a b false 4 r9 j9 j) (h3:g.jv 3=false) (h4:g.jv 1=false):rM L tm TP ds (dep+1) l g i:=by
 have tn:=hT.norm
 have tsh:=hT.shift
 have tl:=hT.take
 obtain ⟨nz,e9,arr,mA,hj⟩:=P
 have k1:=c351 (k:=3) hg.ok
 have k2:=c351 (k:=1) hg.ok
 rw [h3] at k1
 rw [h4] at k2
 have hl':Ctx (1000-20*dep) l:=hl.gB (by omega)
 obtain ⟨x,f1,f2,f3,j2,e2,hx,hj2⟩:=hG j l _ hj hl' hg
 have hA:=dY f1 f2 f3 x
 generalize dZ f1 f2 f3 x=A at e2 hA
 have ac:=Ex.bA x
 refine ⟨⟨9,0,[],0,[x],[],g⟩,true,true,false,j2,?_,(ew (by decide) (by simp) hg.ok hg.kn.cw (by simpa using hx)).up (by omega),hj2⟩
 have h1:¬((dep:Int)+1<1):=by omega
 have h2:(dep:Int)+1-1=dep:=by omega
 try simp [tn,tsh,tl] at e9 arr mA k1 k2 e2
 rw [aK (af:=g326) rfl (by simp [tn,tsh,tl,g326])]
 simp (disch:=omega) [tn,tsh,tl,g326,h1,h2,nz,e9,arr,mA,k1,k2,e2,au,hA.de,hA.flat,hA.g_,hA.len,hA.leaf,ac,dZ,fQ,bN]
theorem LP (hT:Tape L tm TP) (hL:Sm L) (hdep:dep<10) (hG:jf L tm TP ds dep) (hl:Ctx (1000-20*(dep+1)) l) (hg:cb g) {a b:Ty} {r9:Int} {j9 j:Nat} (P:JG L tm TP g i a b false 5 r9 j9 j):rM L tm TP ds (dep+1) l g i:=by
 have tn:=hT.norm
 have tsh:=hT.shift
 have tl:=hT.take
 obtain ⟨nz,e9,arr,mA,hj⟩:=P
 have hl':Ctx (1000-20*dep) l:=hl.gB (by omega)
 obtain ⟨x,f1,f2,f3,j2,e2,hx,hj2⟩:=hG j l _ hj hl' hg
 have hA:=dY f1 f2 f3 x
 generalize dZ f1 f2 f3 x=A at e2 hA
 have ac:=Ex.bA x
 refine ⟨⟨11,0,[],0,[x],[],bN⟩,true,true,true,j2,?_,(ew (by decide) (by simp) h_ ia (by simpa using hx)).up (by omega),hj2⟩
 have h1:¬((dep:Int)+1<1):=by omega
 have h2:(dep:Int)+1-1=dep:=by omega
 try simp [tn,tsh,tl] at e9 arr mA e2
 rw [aK (af:=g326) rfl (by simp [tn,tsh,tl,g326])]
 simp (disch:=omega) [tn,tsh,tl,g326,h1,h2,nz,e9,arr,mA,e2,au,hA.de,hA.flat,hA.g_,hA.len,hA.leaf,ac,dZ,fQ,bN]
end Go.Ab.Lw
namespace Go.Ab.Lw
open Ev
structure QW (x u:Ty):Prop where
 ok:u.Ok
 kn:u.Kn KS
 vr:∀y∈u.nodes,y.kind=1→∃z∈x.nodes,z.kind=3∧z.home=99∧y.id=IntKind.i64.wrap (900+z.id)
 n:u.nodes.length≤x.nodes.length
structure P_ (x u:Ty):Prop where
 ok:u.Ok
 kn:u.Kn KS
 vr:∀y∈u.nodes,y.kind=1→∃z∈x.nodes,z.kind=3∧z.home=99∧y.id=IntKind.i64.wrap (900+z.id)
theorem ML {x:Ty} (hx:x.Ok) (IH:∀a∈x.args,∃u:Ty,(aP AP).p 375 [a.pv]=some [u.pv]∧QW a u):∀(k i:Nat),x.args.length-i=k→i≤x.args.length→∀acc:List Ty,acc.length=i→(∀u∈acc,P_ x u)→(acc.flatMap Ty.nodes).length≤((x.args.take i).flatMap Ty.nodes).length→∃us:List Ty,
   cl AP g375L0 ⟨[(1,.az 1 0),(2,.az 2 0),(3,.az 3 0),(4,.pv (vI i))],[(1,tC x),(2,zC 0),(3,uC x acc 1)],[],[0,acc.length]⟩ =
     some (.exit 0,⟨[(1,.az 1 0),(2,.az 2 0),(3,.az 3 0),(4,.pv (vI x.args.length)),(23,.pv (.bool false))],[(1,tC x),(2,zC 0),(3,uC x us 1)],[],[0,us.length]⟩)∧us.length=x.args.length∧(∀u∈us,P_ x u)∧(us.flatMap Ty.nodes).length≤(x.args.flatMap Ty.nodes).length
 | 0,i,hk,hi,acc,ha,hu,hc=>by
   have:i=x.args.length:=by omega
   subst this
   refine ⟨acc,?_,ha,hu,by simpa using hc⟩
   rw [g375L0e]
   simp [g375B0,tC,zC,uC]
 | k+1,i,hk,hi,acc,ha,hu,hc=>by
   have hi:i<x.args.length:=by omega
   obtain ⟨a,hax⟩:=bp hi
   have hsm:=hx.sm
   unfold Sm at hsm
   obtain ⟨u,e,hO⟩:=IH a (bm hax)
   have hnn:=hO.n
   obtain ⟨us,e',h1,h2,h3⟩:=ML hx IH k (i+1) (by omega) (by omega) (acc++[u]) (by simp;omega) (by
     intro y hy;simp at hy;rcases hy with hy | rfl
     · exact hu y hy
     · exact ⟨hO.ok,hO.kn,fun z hz q=>by obtain ⟨w,hw,hr⟩:=hO.vr z hz q;exact ⟨w,F3 a (bm hax) w hw,hr⟩⟩) (by rw [List.take_add_one,hax,List.flatMap_append,List.length_append,List.flatMap_append,List.length_append];simp only [Option.toList_some,List.flatMap_cons,List.flatMap_nil,List.append_nil];omega)
   refine ⟨us,?_,h1,h2,h3⟩
   have hb:(acc.length+1)*64≤140737488355328:=by omega
   rw [g375L0e] at e' ⊢
   simp at e
   simp [tC,zC,uC] at e'
   simp (disch:=omega) [-getElem?_pos,g375B0,tC,zC,uC,hi,hax,au,e,hb]
   rw [g375L0e]
   simp [e']
theorem c375x {t:Ty} (hG:cb t):∃u:Ty,(aP AP).p 375 [t.pv]=some [u.pv]∧QW t u:=by
 revert hG
 refine Ty.eE (p:=fun t=>cb t→∃u:Ty,(aP AP).p 375 [t.pv]=some [u.pv]∧QW t u) ?_ t
 intro t ih hG
 have hself:t∈t.nodes:=by rw [Ty.bl];simp
 have hpos:1≤t.nodes.length:=by rw [Ty.bl];simp
 by_cases q:t.kind=3∧t.home=99
 · have k:=c63 (n:=IntKind.i64.wrap (900+t.id))
   refine ⟨⟨1,[],IntKind.i64.wrap (900+t.id),0,[]⟩,?_,⟨cO rfl,.bare rfl (by simp),?_,by rw [Ty.bl];simpa using hpos⟩⟩
   · simp at k
     rw [aq (af:=g375) rfl rfl (by decide)]
     simp [g375,q.1,q.2,k]
   · intro y hy _
     rw [Ty.bl] at hy
     simp at hy
     subst hy
     exact ⟨t,hself,q.1,q.2,rfl⟩
 · obtain ⟨us,e,h1,h2,h3⟩:=ML hG.ok (fun a ha=>ih a ha (hG.fM a ha)) _ 0 rfl (by omega) [] rfl (by simp) (by simp)
   refine ⟨⟨t.kind,t.name,t.id,t.home,us⟩,?_,⟨⟨by have:=hG.ok.sm;unfold Sm at *;simp only;omega,fun y hy=>(h2 y hy).ok⟩,.mk (fun r=>?_) fun y hy=>(h2 y hy).kn,?_,by rw [Ty.bl,Ty.bl t];simp only [List.length_cons];omega⟩⟩
   · rw [aq (af:=g375) rfl rfl (by decide)]
     rw [g375L0e] at e
     simp [tC,zC,uC] at e
     by_cases q1:t.kind=3
     · have q2:¬t.home=99:=fun h=>q ⟨q1,h⟩
       simp [q1] at e
       simp [g375,q1,q2,g375L0e,e]
     · simp [g375,q1,g375L0e,e]
   · have:=hG.kn.hd r
     refine ⟨Mk _ this.1,?_⟩
     rw [this.2] at h1
     exact List.length_eq_zero_iff.1 h1
   · intro y hy hk
     rw [Ty.bl] at hy
     simp only [List.mem_cons,List.mem_flatMap] at hy
     rcases hy with rfl | ⟨u,hu,hy⟩
     · have:=(hG.kn.hd (by change t.kind=1 at hk;rw [hk];decide)).1
       change t.kind=1 at hk
       rw [hk] at this
       simp at this
     · exact (h2 u hu).vr y hy hk
theorem JH {l:List Ty}:∀{out:List Ty} {y:Ty},y∈out∨y∈l→y∈l.foldl gv out:=by
 induction l with
 | nil=>intro out y h;simpa using h
 | cons a r ih=>
   intro out y h
   rw [List.foldl_cons]
   refine ih ?_
   rcases h with h | h
   · left;unfold gv;split
     · exact h
     · simp [h]
   · simp only [List.mem_cons] at h
     rcases h with rfl | h
     · left;unfold gv;split
       · assumption
       · simp
     · exact .inr h
theorem c59x {u:Ty} (hu:u.Ok) (hn:u.nodes.length≤4000):∃r:List Ty,(aP AP).p 59 [.aD [u.pv]]=some [.aD (r.map Ty.pv)]∧Sm r∧∀y∈u.eJ 3,y∈r:=by
 have hl:=nq (k:=3) (t:=u)
 have c0:fu (u.eJ 3) []:=⟨by simp,by simp,by omega,fun x hx=>cO (kP x hx)⟩
 have hk:∀x∈[u].flatMap (Ty.eJ 3),x∈u.eJ 3:=by simp
 have h:=QN (S:=u.eJ 3) (l:=[u]) (by simp [Sm]) (by simpa using hu) hk _ 0 rfl (by omega) [] c0
 have hc:=c0.fold hk
 refine ⟨_,?_,hc.len,fun y hy=>JH (.inr (by simpa using hy))⟩
 rw [aq (af:=g59) rfl rfl (by decide)]
 rw [g59L0e] at h
 simp at h
 simp [g59,g59L0e,h]
theorem JI {k:Int} {t:Ty}:∀y∈t.nodes,y.kind=k→y.args=[]→y∈t.eJ k:=by
 refine Ty.eE (p:=fun t=>∀y∈t.nodes,y.kind=k→y.args=[]→y∈t.eJ k) ?_ t
 intro t ih y hy hk ha
 rw [Ty.bl] at hy
 rw [Ty.kK]
 simp only [List.mem_cons,List.mem_flatMap] at hy
 rcases hy with rfl | ⟨a,ham,hy⟩
 · rw [if_pos ⟨hk,by rw [ha];rfl⟩];simp
 · have:¬(t.kind=k∧t.args.length=0):=by
     rintro ⟨_,h⟩
     rw [List.length_eq_zero_iff.1 h] at ham
     cases ham
   rw [if_neg this]
   simp only [List.mem_flatMap]
   exact ⟨a,ham,ih a ham y hy hk ha⟩
theorem JJ {r:List Ty} (hr:Sm r) {t:Ty}:∀(n i:Nat),r.length-i=n→i≤r.length→∀acc:List Int,acc.length≤i→∃ids:List Int,ids.length≤r.length∧(∀v∈acc,v∈ids)∧(∀z∈r.drop i,z.home=99→IntKind.i64.wrap (900+z.id)∈ids) ∧
   cl AP g361L0 ⟨[(1,.az 1 0),(2,.az 2 0),(3,.own (acc.map vI) 0),(4,.pv (.aD (r.map Ty.pv))),(5,.pv (vI i))],[(1,tC t),(2,gz 1)],[],[acc.length,0]⟩ =
     some (.exit 0,⟨[(1,.az 1 0),(2,.az 2 0),(3,.own (ids.map vI) 0),(4,.pv (.aD (r.map Ty.pv))),(5,.pv (vI r.length)),(12,.pv (.bool false))],[(1,tC t),(2,gz 1)],[],[ids.length,0]⟩)
 | 0,i,hn,hi,acc,ha=>by
   have:i=r.length:=by omega
   subst this
   refine ⟨acc,ha,fun _ h=>h,by simp,?_⟩
   rw [g361L0e]
   simp [g361B0,tC,gz]
 | n+1,i,hn,hi,acc,ha=>by
   have hi:i<r.length:=by omega
   obtain ⟨x,hx⟩:=bp hi
   have hr':=hr
   unfold Sm at hr
   have hb:(acc.length+1)*8≤140737488355328:=by omega
   have hh:bH 1 (acc.map vI)=true:=jT.head acc
   rw [bL hx]
   by_cases q:x.home=99
   · obtain ⟨ids,h1,h2,h3,e⟩:=JJ (t:=t) hr' n (i+1) (by omega) (by omega) (acc++[IntKind.i64.wrap (900+x.id)]) (by simp;omega)
     refine ⟨ids,h1,fun v hv=>h2 v (by simp [hv]),?_,?_⟩
     · intro z hz hh
       simp only [List.mem_cons] at hz
       rcases hz with rfl | hz
       · exact h2 _ (by simp)
       · exact h3 z hz hh
     · rw [g361L0e] at e ⊢
       simp [tC,gz] at e
       simp (disch:=omega) [-getElem?_pos,g361B0,tC,gz,hx,hi,q,hb,hh]
       rw [g361L0e]
       have w1:IntKind.i64.wrap ((i:Int)+1)=(i:Int)+1:=au (by omega) (by omega)
       simp [w1,e]
   · obtain ⟨ids,h1,h2,h3,e⟩:=JJ (t:=t) hr' n (i+1) (by omega) (by omega) acc (by omega)
     refine ⟨ids,h1,h2,?_,?_⟩
     · intro z hz hh
       simp only [List.mem_cons] at hz
       rcases hz with rfl | hz
       · exact absurd hh q
       · exact h3 z hz hh
     · rw [g361L0e] at e ⊢
       simp [tC,gz] at e
       simp (disch:=omega) [-getElem?_pos,g361B0,tC,gz,hx,hi,q,au]
       rw [g361L0e]
       simp [e]
theorem mB {ids:List Int}:∀(vs:List Int) (acc:List As),(∀a∈acc,∃k:Nat,k<acc.length∧a.ty=dd k)→(∀a∈cR ids vs acc,∃k:Nat,k<(cR ids vs acc).length∧a.ty=dd k)∧(cR ids vs acc).length≤acc.length+vs.length∧(∀v,(∃x,ke acc v=some x)→∃x,ke (cR ids vs acc) v=some x)∧∀v∈vs,v∈ids→∃x,ke (cR ids vs acc) v=some x
 | [],acc,h=>⟨h,by simp [cR],fun _ h=>h,by simp⟩
 | v::r,acc,h=>by
   simp only [cR]
   by_cases q:v∈ids
   · rw [if_pos q]
     obtain ⟨h1,h2,h3,h4⟩:=mB (ids:=ids) r (acc++[⟨v,dd acc.length⟩]) (by
       intro a ha
       simp at ha
       rcases ha with ha | rfl
       · obtain ⟨k,hk,e⟩:=h a ha;exact ⟨k,by simp;omega,e⟩
       · exact ⟨acc.length,by simp,rfl⟩)
     refine ⟨h1,by simp at h2 ⊢;omega,?_,?_⟩
     · rintro w ⟨x,hx⟩
       exact h3 w ⟨x,by rw [uN,hx];rfl⟩
     · intro w hw hi
       simp only [List.mem_cons] at hw
       rcases hw with rfl | hw
       · refine h3 w ?_
         rw [uN]
         cases ke acc w with
         | some x=>exact ⟨x,rfl⟩
         | none=>exact ⟨dd acc.length,by simp [ke]⟩
       · exact h4 w hw hi
   · rw [if_neg q]
     obtain ⟨h1,h2,h3,h4⟩:=mB (ids:=ids) r acc h
     refine ⟨h1,by simp;omega,h3,?_⟩
     intro w hw hi
     simp only [List.mem_cons] at hw
     rcases hw with rfl | hw
     · exact absurd hi q
     · exact h4 w hw hi
theorem F8 {s:List As} {t:Ty}:∀y∈(t.sub s).nodes,(∃i x,ke s i=some x∧y∈x.nodes)∨∃z∈t.nodes,y.kind=z.kind:=by
 refine Ty.eE (p:=fun t=>∀y∈(t.sub s).nodes,(∃i x,ke s i=some x∧y∈x.nodes)∨∃z∈t.nodes,y.kind=z.kind) ?_ t
 intro t ih y hy
 have fM:∀a∈t.args,y∈(a.sub s).nodes→(∃i x,ke s i=some x∧y∈x.nodes)∨∃z∈t.nodes,y.kind=z.kind:=by
   intro a ha h
   rcases ih a ha y h with h | ⟨z,hz,h⟩
   · exact .inl h
   · exact .inr ⟨z,F3 a ha z hz,h⟩
 have hself:t∈t.nodes:=by rw [Ty.bl];simp
 rw [Ty.sub_eq] at hy
 split at hy
 · cases e:ke s t.id with
   | some x=>rw [e] at hy;exact .inl ⟨_,x,e,hy⟩
   | none=>rw [e] at hy;exact .inr ⟨y,by simpa using hy,rfl⟩
 · rw [Ty.bl] at hy
   simp only [List.mem_cons,List.mem_flatMap,List.mem_map] at hy
   rcases hy with rfl | ⟨b,⟨a,ha,rfl⟩,hy⟩
   · exact .inr ⟨t,hself,rfl⟩
   · exact fM a ha hy
theorem tw:∀{l:List Ty} {out:List Int},(l.foldl cY out).length≤out.length+l.length
 | [],out=>by simp
 | a::r,out=>by
   have h:=tw (l:=r) (out:=cY out a)
   have:(cY out a).length≤out.length+1:=by unfold cY;split<;>simp
   simp only [List.foldl_cons,List.length_cons]
   omega
theorem LQ {u:Ty}:(vars [u]).length≤u.nodes.length:=by
 have:=tw (l:=[u].flatMap Ty.nodes) (out:=[])
 simpa [vars] using this
theorem tz {l:List Ty}:∀{out:List Int} {y:Ty},y∈l→y.kind=1→y.id∈l.foldl cY out:=by
 have a9:∀(l:List Ty) (out:List Int) (v:Int),v∈out→v∈l.foldl cY out:=by
   intro l
   induction l with
   | nil=>intro out v h;exact h
   | cons a r ih=>intro out v h;rw [List.foldl_cons];refine ih _ v ?_;unfold cY;split<;>simp [h]
 induction l with
 | nil=>intro out y h;simp at h
 | cons a r ih=>
   intro out y h hk
   rw [List.foldl_cons]
   simp only [List.mem_cons] at h
   rcases h with rfl | h
   · refine a9 r _ _ ?_
     unfold cY
     by_cases q:y.id∈out<;>simp [q,hk]
   · exact ih h hk
theorem c361x {x:Ty} (hG:cb x) (hn:x.nodes.length≤90):∃c:Sc,(aP AP).p 361 [x.pv]=some [c.pv]∧kh c:=by
 obtain ⟨r,k1,hr,hl3⟩:=c59x hG.ok (by omega)
 obtain ⟨u,k2,T⟩:=c375x hG
 obtain ⟨ids,hi,_,hin,h⟩:=JJ (t:=x) hr _ 0 rfl (by omega) [] (by simp)
 have hl:=nq (k:=1) (t:=u)
 have hun:=T.n
 have k3:=c208 (t:=u) ⟨T.ok,T.kn.wf,u.eJ 1,by omega,fun y hy=>cO (kP y hy),fun y hy=>hy⟩ (ids:=ids) (by unfold Sm at *;omega)
 have hv:=LQ (u:=u)
 obtain ⟨c1,c2,_,c4⟩:=mB (ids:=ids) (vars [u]) [] (by simp)
 have hall:∀y∈u.nodes,y.kind=1→∃z,ke (cR ids (vars [u]) []) y.id=some z:=by
   intro y hy hk
   refine c4 _ (tz (by simpa using hy) hk) ?_
   obtain ⟨z,hz,z3,z99,e⟩:=T.vr y hy hk
   rw [e]
   refine hin z (by
     rw [List.drop_zero]
     refine hl3 z ?_
     have hb:=(hG.kn.nodes z hz (by rw [z3];decide)).2
     exact JI z hz z3 hb) z99
 refine ⟨nf ids u (vars [u]),?_,⟨Bz T.ok,?_,(cR ids (vars [u]) []).length,rfl,by simp at c2;omega,?_⟩⟩
 · generalize nf ids u (vars [u])=c at *
   rw [g361L0e] at h
   simp [tC,gz] at h
   simp at k1 k2 k3
   rw [aq (af:=g361) rfl rfl (by decide)]
   simp [g361,k1,k2,k3,g361L0e,h]
 · refine BE (K:=KS) T.kn (by simp only [KS,KC];omega) ?_ (.inr hall)
   intro i z hz
   obtain ⟨a,ha,rfl⟩:=ly hz
   obtain ⟨k,_,e⟩:=c1 a ha
   rw [e]
   exact .bare rfl (by simp [dd])
 · intro y hy hk
   rcases F8 y hy with ⟨i,z,hz,hy⟩ | ⟨z,hz,e⟩
   · obtain ⟨a,ha,rfl⟩:=ly hz
     obtain ⟨k,hk2,e⟩:=c1 a ha
     rw [e,Ty.bl] at hy
     simp [dd] at hy
     subst hy
     simp only
     omega
   · have:=(T.kn.nodes z hz (by rw [←e,hk];decide)).1
     rw [←e,hk] at this
     simp at this
end Go.Ab.Lw
namespace Go.Ab.Lw
open Ev
def JK:List Ty:=[⟨3,[],0,99,[]⟩,⟨3,[],1,99,[]⟩]
theorem c349 {L:List Int} {tm:Nat} {TP:Int→Sh} (hT:Tape L tm TP) {ds:List Dt} {dep:Nat} {l:List En} {g:Ty} {i:Nat} (hL:Sm L) (hdep:dep<10) (hds:ds.length≤20) (hda:∀d∈ds,d.params.length≤8) (hG:jf L tm TP ds dep) (hl:Ctx (1000-20*(dep+1)) l) (hg:cb g) (hi:i≤L.length) :
   lF L tm TP (12*(dep+2)) ((aP AP).i 349 [.aX tm 0,.pv (.aD (ds.map Dt.pv)),.pv (.aD (l.map En.pv)),.pv g.pv,.pv (vI (dep+1:Nat))] (TP i) []):=by
 have tn:=hT.norm
 have tsh:=hT.shift
 have tl:=hT.take
 obtain ⟨r,j1,e1,r0,r1,hj1⟩:=mz hT hL hi (n:=2) (by omega) (by omega)
 obtain ⟨s,j2,e2,hs,hj2⟩:=F5 hT hL hj1
 obtain ⟨p,j3,e3,p0,p1,hj3⟩:=mz hT hL hj2 (n:=2) (by omega) (by omega)
 have hlv:∀t∈(if p=0 then JK else []),t.args=[]∧t.kind=3:=by
   intro t ht
   split at ht
   · simp [tn,tsh,tl,JK] at ht;rcases ht with rfl | rfl<;>exact ⟨rfl,rfl⟩
   · cases ht
 obtain ⟨x,j4,e4,mx,hj4⟩:=NZ hT hL hds hda (lv:=if p=0 then JK else []) (by unfold Sm;split<;>simp [tn,tsh,tl,JK]) 2 (by omega) j3 hj3
 have gx:cb x:=jZ hda hlv mx
 have hxn:=mx.small hda (fun t ht=>(hlv t ht).1)
 obtain ⟨c,kc,sc⟩:=c361x gx (by omega)
 have hll:=hl.len
 have k1:=c176 (t:=x)
 have k2:=c179 (l:=l) (by unfold Sm;omega) (n:=s) (c:=⟨0,x⟩)
 have hl':Ctx (1000-20*dep) l:=hl.gB (by omega)
 have hlx:Ctx (1000-20*dep) (if r=1 then l++[⟨s,⟨0,x⟩⟩] else l):=by
   split
   · exact hl.push gx.mono (by omega)
   · exact hl'
 obtain ⟨a,f1,f2,f3,j5,e5,ha,hj5⟩:=hG j4 _ x hj4 hlx gx
 obtain ⟨b10,k3⟩:=c307 ha.sc.ok 10
 obtain ⟨b11,k4⟩:=c307 ha.sc.ok 11
 have k5:=c34
 have k6:=c176 (t:=br)
 obtain ⟨c',hc',MM⟩:∃c':Sc,c'=(if b10=true∨b11=true then ⟨0,br⟩ else c)∧kh c':=by
   refine ⟨_,rfl,?_⟩
   split
   · exact pW.mono
   · exact sc
 have k7:=c179 (l:=l) (by unfold Sm;omega) (n:=s) (c:=c')
 obtain ⟨b,f4,f5,f6,j6,e6,hb,hj6⟩:=hG j5 _ g hj5 (hl.push (s:=s) MM (by omega)) hg
 have hA:=dY f1 f2 f3 a
 generalize dZ f1 f2 f3 a=A at e5 hA
 have hB:=dY f4 f5 f6 b
 generalize dZ f4 f5 f6 b=B at e6 hB
 have ac:=Ex.bA a
 have bc:=Ex.bA b
 have tA:A.take 11=A:=List.take_of_length_le (by rw [hA.len];omega)
 have hk:6+r≠8:=by omega
 refine ⟨⟨6+r,0,s,0,[a,b],[],bN⟩,true,true,true,j6,?_,(ew hk (by simp) h_ ia (by simpa using ⟨ha,hb⟩)).up (by omega),hj6⟩
 have h2:(dep:Int)+1-1=dep:=by omega
 have q1:=c71 (n:=99) (m:=0)
 have q2:=c71 (n:=99) (m:=1)
 have hr:r=0∨r=1:=by omega
 simp [tn,tsh,tl,Ty.av] at e1 e2 e3 e4 kc k1 k2 k3 k4 e5
 rw [aK (af:=g349) rfl (by simp [tn,tsh,tl,g349])]
 rcases hr with rfl | rfl<;>by_cases hp:p=0<;>cases b10<;>cases b11<;>subst hc'<;>simp [tn,tsh,tl,br] at k5 k6 k7 e6<;>simp [tn,tsh,tl,hp,JK] at e4 e5 q1 q2 <;>
 simp (disch:=omega) [tn,tsh,tl,g349,h2,e1,e2,e3,hp,e4,kc,k1,k2,k3,k4,k5,k6,k7,e5,e6,q1,q2,au,hA.de,hA.flat,hA.g_,hA.len,hA.leaf,hB.de,hB.flat,hB.g_,hB.len,hB.leaf,tA,ac,bc,aJ,dZ,fQ,bN]
end Go.Ab.Lw
namespace Go.Ab.Lw
open Ev
theorem F9 {vs:List Int} {x:Ty} {v:Int} (h:v∈vs):ke (vs.map fun v=>As.mk v x) v=some x:=by
 induction vs with
 | nil=>simp at h
 | cons a r ih=>
   simp only [List.map_cons,ke]
   by_cases e:a=v
   · simp [e]
   · simp only [List.mem_cons] at h
     rcases h with h | h
     · exact absurd h.symm e
     · simp [e,ih h]
theorem BN {vs:List Int} {x y:Ty} {v:Int} (h:ke (vs.map fun v=>As.mk v x) v=some y):y=x:=by
 obtain ⟨a,ha,rfl⟩:=ly h
 simp only [List.mem_map] at ha
 obtain ⟨w,_,rfl⟩:=ha
 rfl
theorem c363x {t:Ty} (h:FZ t):∃u:Ty,(aP AP).p 363 [t.pv]=some [u.pv]∧cb u:=by
 have hl:=nq (k:=1) (t:=t)
 have hn:=h.2
 refine ⟨_,c363 (S:=t.eJ 1) (by omega) (fun x hx=>cO (kP x hx)) (t:=t) ⟨h.1.1,h.1.2.wf,fun x hx=>hx⟩,?_,?_⟩
 · refine Bx ?_ h.1.1
   intro a ha
   simp only [List.mem_map] at ha
   obtain ⟨w,_,rfl⟩:=ha
   exact pW.ok
 · refine BE (K:=KS) h.1.2 (by simp only [KS,KG];omega) ?_ (.inr ?_)
   · intro i x hx
     rw [BN hx]
     exact pW.kn
   · intro y hy hk
     exact ⟨br,F9 (tz (by simpa using hy) hk)⟩
def Ou (h:Hd):List AV:=[.pv (.str h.name),.pv (.bool h.gq),.pv (.aD (h.args.map Ty.pv)),.pv (.aD (h.types.map Ty.pv))]
def Ov (k:Int) (s:bS) (ks:List Ex):List AV:=[.pv (vI k),.pv (vI 0),.pv (.str s),.pv (vI 0),.own (ks.map Ex.pv) 3,.own [] 4,.pv (vI 0),.pv (.str []),.pv (vI 0),.pv (vI 0),.own [] 5]
theorem P' {L:List Int} {tm:Nat} {TP:Int→Sh} (hT:Tape L tm TP) {ds:List Dt} {dep:Nat} {l:List En} (hdep:dep<10) (hG:jf L tm TP ds dep) (hl:Ctx (1000-20*dep) l) {h:Hd} (hh:rL h):∀(n i:Nat),h.args.length-i=n→i≤h.args.length→∀(k:Int) (s:bS) (ks:List Ex) (I N:Nat),u_ N ⟨k,0,s,0,ks,[],bN⟩→12*(dep+1)≤N→I≤L.length→∃(k':Int) (s':bS) (ks':List Ex) (J:Nat),u_ (N+n) ⟨k',0,s',0,ks',[],bN⟩∧J≤L.length ∧
   cl AP g352L0 ⟨[(0,.aX tm 0),(1,.pv (.aD (ds.map Dt.pv))),(2,.pv (.aD (l.map En.pv))),(4,.pv (vI (dep+1))),(10,.az 10 0),(12,.az 12 0),(13,.az 13 0),(14,.pv (vI i))],[(10,nk 0),(12,Ou h),(13,Ov k s ks)],TP I,[0,0,0,ks.length,0,0]⟩ =
     some (.exit 0,⟨[(0,.aX tm 0),(1,.pv (.aD (ds.map Dt.pv))),(2,.pv (.aD (l.map En.pv))),(4,.pv (vI (dep+1))),(10,.az 10 0),(12,.az 12 0),(13,.az 13 0),(14,.pv (vI h.args.length)),(45,.pv (.bool false))],[(10,nk 0),(12,Ou h),(13,Ov k' s' ks')],TP J,[0,0,0,ks'.length,0,0]⟩)
 | 0,i,hn,hi,k,s,ks,I,N,hY,hN,hI=>by
   have tn:=hT.norm
   have tsh:=hT.shift
   have tl:=hT.take
   have:i=h.args.length:=by omega
   subst this
   refine ⟨k,s,ks,I,hY,hI,?_⟩
   rw [g352L0e]
   simp [tn,tsh,tl,g352B0,nk,Ou,Ov]
 | n+1,i,hn,hi,k,s,ks,I,N,hY,hN,hI=>by
   have tn:=hT.norm
   have tsh:=hT.shift
   have tl:=hT.take
   have hi:i<h.args.length:=by omega
   obtain ⟨t,ht⟩:=bp hi
   obtain ⟨u,k1,gu⟩:=c363x (hh.2 t (bm ht))
   obtain ⟨y,f1,f2,f3,j,k2,hy,hj⟩:=hG I l u hI hl gu
   have hY2:u_ (N+1) ⟨5,0,[],0,[⟨k,0,s,0,ks,[],bN⟩,y],[],bN⟩:=ew (by decide) (by simp) h_ ia (by
     intro x hx
     try simp [tn,tsh,tl] at hx
     rcases hx with rfl | rfl
     · exact hY
     · exact hy.up hN)
   obtain ⟨k',s',ks',J,q1,q2,e'⟩:=P' hT hdep hG hl hh n (i+1) (by omega) (by omega) 5 [] [⟨k,0,s,0,ks,[],bN⟩,y] j (N+1) hY2 (by omega) hj
   refine ⟨k',s',ks',J,q1.up (by omega),q2,?_⟩
   have hA:=dY f1 f2 f3 y
   generalize dZ f1 f2 f3 y=A at k2 hA
   have ac:=Ex.bA y
   have tA:A.take 11=A:=List.take_of_length_le (by rw [hA.len];omega)
   have h2:(dep:Int)+1-1=dep:=by omega
   have ha:=hh.1
   rw [g352L0e] at e' ⊢
   simp [tn,tsh,tl,nk,Ou,Ov,bN] at e'
   try simp [tn,tsh,tl] at k1 k2
   simp (disch:=omega) [tn,tsh,tl,-getElem?_pos,g352B0,nk,Ou,Ov,ht,hi,h2,k1,k2,au,hA.de,hA.flat,hA.g_,hA.len,hA.leaf,tA,ac,aJ]
   rw [g352L0e]
   simp [tn,tsh,tl,e']
theorem c352 {L:List Int} {tm:Nat} {TP:Int→Sh} (hT:Tape L tm TP) {ds:List Dt} {dep:Nat} {l:List En} {g:Ty} {i:Nat} (hL:Sm L) (hdep:dep<10) (hD:rP ds) (hG:jf L tm TP ds dep) (hl:Ctx (1000-20*(dep+1)) l) (hg:cb g) (hi:i≤L.length) :
   lF L tm TP (12*(dep+2)) ((aP AP).i 352 [.aX tm 0,.pv (.aD (ds.map Dt.pv)),.pv (.aD (l.map En.pv)),.pv g.pv,.pv (vI (dep+1:Nat))] (TP i) []):=by
 have tn:=hT.norm
 have tsh:=hT.shift
 have tl:=hT.take
 have hll:=hl.len
 obtain ⟨hs,n1,hO,k1⟩:=c362 hg hD (l:=l) (by omega) hl.P9
 by_cases z:hs=[]
 · subst z
   obtain ⟨e,f1,f2,f3,j,k,ht,hj⟩:=c348 hT hL (ds:=ds) (hl.gB (by omega)) hg hi
   refine ⟨e,f1,f2,f3,j,?_,ht.up (by omega),hj⟩
   try simp [tn,tsh,tl] at k1
   rw [aK (af:=g352) rfl (by simp [tn,tsh,tl,g352])]
   cases f1<;>cases f2<;>cases f3<;>simp [tn,tsh,tl,dZ,fQ] at k<;>simp [tn,tsh,tl,g352,k1,k,dZ,fQ,aJ]
 · have hp:0<hs.length:=List.length_pos_iff.2 z
   obtain ⟨m,j,e1,m0,m1,hj⟩:=mz hT hL hi (n:=hs.length) (by omega) (by omega)
   obtain ⟨m,rfl,hm⟩:=jS m0 m1
   obtain ⟨h,hx⟩:=bp hm
   have hhO:=hO h (bm hx)
   have ha:=hhO.1
   obtain ⟨k',s',ks',J,q1,q2,e2⟩:=P' hT (L:=L) (l:=l) hdep hG (hl.gB (by omega)) hhO _ 0 rfl (by omega) (if h.gq=true then 2 else 1) h.name [] j (12*(dep+1)) ((d7 (by split<;>decide)).up (by omega)) (by omega) hj
   refine ⟨⟨k',0,s',0,ks',[],bN⟩,false,false,false,J,?_,q1.up (by omega),q2⟩
   rw [g352L0e] at e2
   try simp [tn,tsh,tl] at k1 e1
   rw [aK (af:=g352) rfl (by simp [tn,tsh,tl,g352])]
   cases hc:h.gq<;>simp [tn,tsh,tl,nk,Ou,Ov,hc] at e2<;>simp [tn,tsh,tl,-getElem?_pos,g352,k1,z,e1,hx,hc,g352L0e,e2,dZ,fQ,bN,aJ]
end Go.Ab.Lw
namespace Go.Ab.Lw
open Ev
theorem LR:∀d∈cu,d.params.length≤100∧∀c∈d.cons,∀f∈c.fields,LK ⟨d.params.length,f.lR d.params⟩=true:=by decide +kernel
theorem yg {K:Nat} {t:Ty} (h:kh ⟨K,t⟩) {as:List Ty} (ha:as.length=K) (hg:∀a∈as,cb a):cb (t.ml as):=by
 obtain ⟨K',h1,_,h3⟩:=h.P3
 have:K'=K:=by simp at h1;omega
 subst this
 exact ⟨Jl (fun a h=>(hg a h).ok) h.ok,Jm h.kn (by simp only [KC,KG];omega) (fun a h=>(hg a h).kn) (fun y hy hk=>by have:=h3 y hy hk;omega)⟩
theorem yh {ds:List Dt} (hD:rP ds) {s:bS} {as:List Ty} (hg:∀a∈as,cb a):((fieldsOf ds s as).getD []).length≤8∧∀f∈(fieldsOf ds s as).getD [],cb f:=by
 cases e:fieldsOf ds s as with
 | none=>simp
 | some fs=>
   simp only [fieldsOf,Option.bind_eq_some_iff] at e
   obtain ⟨q,_,d,hd,c,hc,e⟩:=e
   split at e
   · rename_i hl
     cases e
     have dA:=hD.all d (bm hd)
     obtain ⟨_,_,h8⟩:=dU d dA
     obtain ⟨hb,hb2⟩:=LR d dA
     refine ⟨by simpa using (h8 c (bm hc)).1,?_⟩
     intro f hf
     simp only [Option.getD_some,List.mem_map] at hf
     obtain ⟨x,hx,rfl⟩:=hf
     exact yg (Cx rfl hb (hb2 c (bm hc) x hx)) hl hg
   · cases e
theorem rP.small {ds:List Dt} (h:rP ds):Small ds where
 num:=by have:=h.len;unfold Sm;omega
 gq:=fun d hd=>by have:=(dU d (h.all d hd)).2.1;unfold Sm;omega
 Ro:=by have:=h.len;have:=Lu (b:=8) fun d hd=>(dU d (h.all d hd)).2.1;unfold Sm;omega
 par:=fun d hd=>by have:=(dU d (h.all d hd)).1;unfold Sm;omega
 Qw:=fun d hd c hc=>by
   obtain ⟨a,b,c2⟩:=Cy (h.all d hd) c hc
   exact ⟨a,b,fun x hx=>(c2 x hx).cw⟩
theorem MN {L:List Int} {tm:Nat} {TP:Int→Sh} (hT:Tape L tm TP) (hL:Sm L) {ds:List Dt} (hds:ds.length≤20) (hda:∀d∈ds,d.params.length≤8) {p2:PV} {p4:PV} {g:Ty} {d:Dt} (hd8:d.params.length≤8):∀(n k:Nat),d.params.length-k=n→k≤d.params.length→∀(acc:List Ty) (i:Nat),acc.length=k→(∀x∈acc,cb x)→i≤L.length →
   ∃(r:List Ty) (j:Nat),r.length=d.params.length∧(∀x∈r,cb x)∧j≤L.length ∧
   cl AP g350L0 ⟨[(0,.aX tm 0),(1,.pv (.aD (ds.map Dt.pv))),(2,.pv p2),(4,.pv p4),(8,.az 8 0),(10,.az 10 0),(11,.az 11 0),(12,.own (acc.map Ty.pv) 0),(13,.pv (vI k))],[(8,tC g),(10,nk 1),(11,pX d)],TP i,[acc.length,0,0,0]⟩ =
     some (.exit 0,⟨[(0,.aX tm 0),(1,.pv (.aD (ds.map Dt.pv))),(2,.pv p2),(4,.pv p4),(8,.az 8 0),(10,.az 10 0),(11,.az 11 0),(12,.own (r.map Ty.pv) 0),(13,.pv (vI d.params.length)),(41,.pv (.bool false))],[(8,tC g),(10,nk 1),(11,pX d)],TP j,[r.length,0,0,0]⟩)
 | 0,k,hn,hk,acc,i,ha,hm,hi=>by
   have tn:=hT.norm
   have tsh:=hT.shift
   have tl:=hT.take
   have:k=d.params.length:=by omega
   subst this
   refine ⟨acc,i,ha,hm,hi,?_⟩
   rw [g350L0e]
   simp [tn,tsh,tl,g350B0,tC,nk,pX]
 | n+1,k,hn,hk,acc,i,ha,hm,hi=>by
   have tn:=hT.norm
   have tsh:=hT.shift
   have tl:=hT.take
   have hk:k<d.params.length:=by omega
   obtain ⟨t,j1,e1,mt,hj1⟩:=NZ hT hL hds hda (lv:=[]) (by simp [tn,tsh,tl,Sm]) 1 (by omega) i hi
   have gt:cb t:=jZ hda (by simp) mt
   obtain ⟨r,j,h1,h2,h3,e'⟩:=MN hT hL hds hda (p2:=p2) (p4:=p4) (g:=g) hd8 n (k+1) (by omega) (by omega) (acc++[t]) j1 (by simp;omega) (by
     intro x hx;simp at hx;rcases hx with hx | rfl
     · exact hm x hx
     · exact gt) hj1
   refine ⟨r,j,h1,h2,h3,?_⟩
   have hb:(acc.length+1)*64≤140737488355328:=by omega
   rw [g350L0e] at e' ⊢
   simp [tn,tsh,tl,tC,nk,pX] at e'
   simp [tn,tsh,tl,Ty.av] at e1
   simp (disch:=omega) [tn,tsh,tl,-getElem?_pos,g350B0,tC,nk,pX,hk,e1,hb,au]
   rw [g350L0e]
   simp [tn,tsh,tl,e']
def J3 (x:Ex) (as:List Ar):List AV:=[.pv (vI 8),.pv (vI 0),.pv (.str []),.pv (vI 0),.own [x.pv] 4,.own (as.map Ar.pv) 5,.pv (vI 0),.pv (.str []),.pv (vI 0),.pv (vI 0),.own [] 6]
def Ow (c:gR) (vs:List bS):List AV:=[.pv (vI 0),.pv (.str c.name),.own (vs.map .str) 7,.pv (vI 0),.pv (vI 0),.pv (.str []),.pv (vI 0),.own [] 8,.own [] 9,.pv (vI 0),.pv (.str []),.pv (vI 0),.pv (vI 0),.own [] 10]
def wN:List bS:=[[120],[121],[122],[119]]
theorem MO {L:List Int} {tm:Nat} {TP:Int→Sh} (hT:Tape L tm TP) {I:Nat} {p1 p2 p4:PV} {g:Ty} {d:Dt} {as:List Ty} {x:Ex} {ar:List Ar} {C:Nat} {c:gR} {f:List Ty} (hf8:f.length≤8) (hf:∀t∈f,cb t) {N:Nat} (hN:N≤10000):∀(n k:Nat),f.length-k=n→k≤f.length→∀(vs:List bS) (l:List En),vs.length=k→Ctx (N+k) l →
   ∃(r:List bS) (l':List En),r.length=f.length∧Ctx (N+f.length) l' ∧
   cl AP g350L2 ⟨[(0,.aX tm 0),(1,.pv p1),(2,.pv p2),(4,.pv p4),(8,.az 8 0),(10,.az 10 0),(11,.az 11 0),(12,.own (as.map Ty.pv) 0),(14,.az 14 0),(15,.pv (vI C)),(16,.pv (.aD (f.map Ty.pv))),(18,.az 18 0),(19,.pv (.aD (l.map En.pv))),(20,.pv (vI k))],
     [(8,tC g),(10,nk 1),(11,pX d),(14,J3 x ar),(18,Ow c vs)],TP I,[as.length,0,0,0,1,ar.length,0,vs.length,0,0,0]⟩ =
     some (.exit 4,⟨[(0,.aX tm 0),(1,.pv p1),(2,.pv p2),(4,.pv p4),(8,.az 8 0),(10,.az 10 0),(11,.az 11 0),(12,.own (as.map Ty.pv) 0),(14,.az 14 0),(15,.pv (vI C)),(16,.pv (.aD (f.map Ty.pv))),(18,.az 18 0),(19,.pv (.aD (l'.map En.pv))),(20,.pv (vI f.length)),(92,.pv (.bool false))],
     [(8,tC g),(10,nk 1),(11,pX d),(14,J3 x ar),(18,Ow c r)],TP I,[as.length,0,0,0,1,ar.length,0,r.length,0,0,0]⟩)
 | 0,k,hn,hk,vs,l,hv,hl=>by
   have tn:=hT.norm
   have tsh:=hT.shift
   have tl:=hT.take
   have:k=f.length:=by omega
   subst this
   refine ⟨vs,l,hv,hl,?_⟩
   rw [g350L2e]
   simp [tn,tsh,tl,g350B2,tC,nk,pX,J3,Ow]
 | n+1,k,hn,hk,vs,l,hv,hl=>by
   have tn:=hT.norm
   have tsh:=hT.shift
   have tl:=hT.take
   have hk:k<f.length:=by omega
   obtain ⟨t,ht⟩:=bp hk
   have hll:=hl.len
   obtain ⟨q,hrem,hq⟩:∃q:Nat,(k:Int).tmod 4=q∧q<4:=⟨((k:Int) % 4).toNat,by rw [Int.tmod_eq_emod_of_nonneg (by omega)];omega,by omega⟩
   obtain ⟨s,hs⟩:=bp (l:=wN) (i:=q) (by simpa [wN] using hq)
   have k1:=c176 (t:=t)
   have k2:=c179 (l:=l) (by unfold Sm;omega) (n:=s) (c:=⟨0,t⟩)
   obtain ⟨r,l',h1,h2,e'⟩:=MO hT (L:=L) (I:=I) (p1:=p1) (p2:=p2) (p4:=p4) (g:=g) (d:=d) (as:=as) (x:=x) (ar:=ar) (C:=C) (c:=c) hf8 hf hN n (k+1) (by omega) (by omega) (vs++[s]) (l++[⟨s,⟨0,t⟩⟩]) (by simp;omega) (hl.push (hf t (bm ht)).mono (by omega))
   refine ⟨r,l',h1,h2,?_⟩
   have hb:(vs.length+1)*16≤140737488355328:=by omega
   have hs':([PV.str [120],.str [121],.str [122],.str [119]]:List PV)[q]?=some (.str s):=by
     have:([PV.str [120],.str [121],.str [122],.str [119]]:List PV)=wN.map PV.str:=rfl
     rw [this];simp [tn,tsh,tl,hs]
   rw [g350L2e] at e' ⊢
   simp [tn,tsh,tl,tC,nk,pX,J3,Ow] at e'
   try simp [tn,tsh,tl] at k1 k2
   simp (disch:=omega) [tn,tsh,tl,-getElem?_pos,g350B2,tC,nk,pX,J3,Ow,hk,ht,hrem,hs',k1,k2,hb,au,aJ]
   rw [g350L2e]
   simp [tn,tsh,tl,e']
end Go.Ab.Lw
namespace Go.Ab.Lw
open Ev
theorem yi {n:Nat} {x:Ex} {as:List Ar} (hx:u_ n x) (ha:as.length≤1000) (h:∀a∈as,a.vars.length≤1000∧u_ n a.body):u_ (n+1) ⟨8,0,[],0,[x],as,bN⟩:=by
 have hc:∀y∈(⟨8,0,[],0,[x],as,bN⟩:Ex).ch,u_ n y:=by
   intro y hy
   simp [Ex.ch] at hy
   rcases hy with rfl | ⟨a,ha,rfl⟩
   · exact hx
   · exact (h a ha).2
 exact ⟨⟨.mk (by simp) (by simpa using ha) (fun a hm=>(h a hm).1) h_ fun y hy=>(hc y hy).sc.ok,.mk (fun _=>rfl) fun y hy=>(hc y hy).sc.one,.mk ia fun y hy=>(hc y hy).sc.cw⟩,.mk fun y hy=>(hc y hy).h⟩
theorem MP {L:List Int} {tm:Nat} {TP:Int→Sh} (hT:Tape L tm TP) {ds:List Dt} {dep:Nat} {l:List En} {g:Ty} (hdep:dep<10) (hD:rP ds) (hG:jf L tm TP ds dep) (hl:Ctx (1000-20*(dep+1)) l) (hg:cb g) {d:Dt} (hdm:d∈ds) {as:List Ty} (has:as.length≤8) (hga:∀a∈as,cb a) {x:Ex}:∀(n k:Nat),d.cons.length-k=n→k≤d.cons.length→∀(ar:List Ar) (i:Nat),ar.length=k→(∀a∈ar,a.vars.length≤1000∧u_ (12*(dep+1)) a.body)→i≤L.length →
   ∃(r:List Ar) (j:Nat),r.length=d.cons.length∧(∀a∈r,a.vars.length≤1000∧u_ (12*(dep+1)) a.body)∧j≤L.length ∧
   cl AP g350L1 ⟨[(0,.aX tm 0),(1,.pv (.aD (ds.map Dt.pv))),(2,.pv (.aD (l.map En.pv))),(4,.pv (vI (dep+1))),(8,.az 8 0),(10,.az 10 0),(11,.az 11 0),(12,.own (as.map Ty.pv) 0),(14,.az 14 0),(15,.pv (vI k))],
     [(8,tC g),(10,nk 1),(11,pX d),(14,J3 x ar)],TP i,[as.length,0,0,0,1,ar.length,0]⟩ =
     some (.exit 2,⟨[(0,.aX tm 0),(1,.pv (.aD (ds.map Dt.pv))),(2,.pv (.aD (l.map En.pv))),(4,.pv (vI (dep+1))),(8,.az 8 0),(10,.az 10 0),(11,.az 11 0),(12,.own (as.map Ty.pv) 0),(14,.az 14 0),(15,.pv (vI d.cons.length)),(66,.pv (.bool false))],
     [(8,tC g),(10,nk 1),(11,pX d),(14,J3 x r)],TP j,[as.length,0,0,0,1,r.length,0]⟩)
 | 0,k,hn,hk,ar,i,ha,hm,hi=>by
   have tn:=hT.norm
   have tsh:=hT.shift
   have tl:=hT.take
   have:k=d.cons.length:=by omega
   subst this
   refine ⟨ar,i,ha,hm,hi,?_⟩
   rw [g350L1e]
   simp [tn,tsh,tl,g350B1,tC,nk,pX,J3]
 | n+1,k,hn,hk,ar,i,ha,hm,hi=>by
   have tn:=hT.norm
   have tsh:=hT.shift
   have tl:=hT.take
   have hk:k<d.cons.length:=by omega
   obtain ⟨c,hc⟩:=bp hk
   have hc8:=(dU d (hD.all d hdm)).2.1
   have k1:=c207 hD.small (as:=as) (by unfold Sm;omega) (s:=c.name)
   obtain ⟨hf8,hf⟩:=yh hD (s:=c.name) hga
   generalize hff:fieldsOf ds c.name as=F at *
   generalize hfe:F.getD []=f at *
   obtain ⟨vs,l',hv,hl',e1⟩:=MO hT (L:=L) (I:=i) (p1:=.aD (ds.map Dt.pv)) (p2:=.aD (l.map En.pv)) (p4:=vI (dep+1)) (g:=g) (d:=d) (as:=as) (x:=x) (ar:=ar) (C:=k) (c:=c) hf8 hf (N:=1000-20*(dep+1)) (by omega) _ 0 rfl (by omega) [] l rfl (hl.gB (by omega))
   obtain ⟨b,f1,f2,f3,j2,e2,hb,hj2⟩:=hG i l' g hi (hl'.gB (by omega)) hg
   obtain ⟨r,j,q1,q2,q3,e'⟩:=MP hT hdep hD hG hl hg hdm has hga (x:=x) n (k+1) (by omega) (by omega) (ar++[⟨0,c.name,vs,b⟩]) j2 (by simp;omega) (by
     intro a h;simp at h;rcases h with h | rfl
     · exact hm a h
     · exact ⟨by simp only;omega,hb⟩) hj2
   refine ⟨r,j,q1,q2,q3,?_⟩
   have hB:=dY f1 f2 f3 b
   generalize dZ f1 f2 f3 b=B at e2 hB
   have bc:=Ex.bA b
   have tB:B.take 11=B:=List.take_of_length_le (by rw [hB.len];omega)
   have hbb:(ar.length+1)*200≤140737488355328:=by omega
   have hd1:(dep:Int)+1-1=dep:=by omega
   rw [g350L2e] at e1
   rw [g350L1e] at e'
   simp [tn,tsh,tl,tC,nk,pX,J3,Ow] at e1 e' e2 ⊢
   simp [tn,tsh,tl,PQ,hfe] at k1
   rw [g350L1e]
   simp (disch:=omega) [tn,tsh,tl,-getElem?_pos,g350B1,hc,hk,k1,au,hd1,g350L2e,e1,e2,hbb,aJ,hB.de,hB.flat,hB.g_,hB.len,hB.leaf,tB,bc]
   rw [g350L1e]
   simp [tn,tsh,tl,e']
theorem c350 {L:List Int} {tm:Nat} {TP:Int→Sh} (hT:Tape L tm TP) {ds:List Dt} {dep:Nat} {l:List En} {g:Ty} {i:Nat} (hL:Sm L) (hdep:dep<10) (hD:rP ds) (hG:jf L tm TP ds dep) (hl:Ctx (1000-20*(dep+1)) l) (hg:cb g) (hi:i≤L.length) :
   lF L tm TP (12*(dep+2)) ((aP AP).i 350 [.aX tm 0,.pv (.aD (ds.map Dt.pv)),.pv (.aD (l.map En.pv)),.pv g.pv,.pv (vI (dep+1:Nat))] (TP i) []):=by
 have tn:=hT.norm
 have tsh:=hT.shift
 have tl:=hT.take
 have hll:=hl.len
 by_cases z:ds=[]
 · subst z
   obtain ⟨e,f1,f2,f3,j,k,ht,hj⟩:=c348 hT hL (ds:=[]) (hl.gB (by omega)) hg hi
   refine ⟨e,f1,f2,f3,j,?_,ht.up (by omega),hj⟩
   rw [aK (af:=g350) rfl (by simp [tn,tsh,tl,g350])]
   cases f1<;>cases f2<;>cases f3<;>simp [tn,tsh,tl,dZ,fQ] at k<;>simp [tn,tsh,tl,g350,k,dZ,fQ,aJ]
 · have hp:0<ds.length:=List.length_pos_iff.2 z
   have hdl:=hD.len
   have hda:∀d∈ds,d.params.length≤8:=fun d hd=>(dU d (hD.all d hd)).1
   obtain ⟨m,j1,e1,m0,m1,hj1⟩:=mz hT hL hi (n:=ds.length) (by omega) (by omega)
   obtain ⟨m,rfl,hm⟩:=jS m0 m1
   obtain ⟨d,hd⟩:=bp hm
   have hdm:=bm hd
   obtain ⟨as,j2,a1,a2,hj2,e2⟩:=MN hT hL (by omega) hda (p2:=.aD (l.map En.pv)) (p4:=vI (dep+1)) (g:=g) (hda d hdm) _ 0 rfl (by omega) [] j1 rfl (by simp) hj1
   have hd8:=hda d hdm
   have hd10:=(dU d (hD.all d hdm)).2.1
   have k1:=c62 (s:=d.name) (l:=as) (by unfold Sm;omega)
   have gt:cb ⟨4,d.name,0,0,as⟩:=⟨⟨by unfold Sm;simp only;omega,fun x hx=>(a2 x hx).ok⟩,.mk (by simp) fun x hx=>(a2 x hx).kn⟩
   obtain ⟨x,f1,f2,f3,j3,e3,hx,hj3⟩:=hG j2 l _ hj2 (hl.gB (by omega)) gt
   obtain ⟨r,j4,b1,b2,hj4,e4⟩:=MP hT hdep hD hG hl hg hdm (by omega) a2 (x:=x) _ 0 rfl (by omega) [] j3 rfl (by simp) hj3
   refine ⟨⟨8,0,[],0,[x],r,bN⟩,false,false,false,j4,?_,(yi hx (by omega) b2).up (by omega),hj4⟩
   have hA:=dY f1 f2 f3 x
   generalize dZ f1 f2 f3 x=A at e3 hA
   have ac:=Ex.bA x
   have hd1:(dep:Int)+1-1=dep:=by omega
   rw [g350L0e] at e2
   rw [g350L1e] at e4
   simp [tn,tsh,tl,tC,nk,pX,J3] at e1 e2 e3 e4 k1
   rw [aK (af:=g350) rfl (by simp [tn,tsh,tl,g350])]
   simp (disch:=omega) [tn,tsh,tl,-getElem?_pos,g350,z,hd1,au,e1,hd,g350L0e,e2,k1,e3,hA.de,hA.flat,hA.g_,hA.len,hA.leaf,ac,g350L1e,e4,aJ,dZ,fQ,bN]
theorem c326 {L:List Int} {tm:Nat} {TP:Int→Sh} (hT:Tape L tm TP) {ds:List Dt} (hL:Sm L) (hD:rP ds):∀dep:Nat,dep≤10→jf L tm TP ds dep
 | 0,_=>fun i l g hi hl hg=>JF hT hL (hl.gB (by omega)) hg hi
 | dep+1,hdep=>fun i l g hi hl hg=>by
   have tn:=hT.norm
   have tsh:=hT.shift
   have tl:=hT.take
   have hG:=c326 hT hL hD dep (by omega)
   have hdl:=hD.len
   have hda:∀d∈ds,d.params.length≤8:=fun d hd=>(dU d (hD.all d hd)).1
   obtain ⟨r9,j9,e9,r0,r1,hj9⟩:=mz hT hL hi (n:=9) (by omega) (by omega)
   by_cases nz:r9=0
   · subst nz
     exact LO hT hL (by omega) (hl.gB (by omega)) hg hj9 e9
   · obtain ⟨a,b,ar,arr,_,_,hab⟩:=c194g hg.ok
     obtain ⟨k,j,mA,k0,k1,hj⟩:=mz hT hL hj9 (n:=10) (by omega) (by omega)
     have P:JG L tm TP g i a b ar k r9 j9 j:=⟨nz,e9,arr,mA,hj⟩
     have h1:¬((dep:Int)+1<1):=by omega
     have headed:(ar=true→7≤k)→(ar=false→¬k<2∧k≠2∧k≠3∧k≠5∧(k=4→¬(g.jv 3=false∧g.jv 1=false)))→rM L tm TP ds (dep+1) l g i:=by
       intro H1 H2
       obtain ⟨e,f1,f2,f3,j',kk,ht,hj'⟩:=c352 hT hL (by omega) hD hG hl hg hj
       refine ⟨e,f1,f2,f3,j',?_,ht,hj'⟩
       have c3:=c351 (k:=3) hg.ok
       have c1:=c351 (k:=1) hg.ok
       try simp [tn,tsh,tl] at e9 arr mA c3 c1
       rw [aK (af:=g326) rfl (by simp [tn,tsh,tl,g326])]
       cases ar with
       | true=>
         have q:=H1 rfl
         have q7:¬k<7:=by omega
         have q2:¬k<2:=by omega
         have q3:¬k=2:=by omega
         have q4:¬k=3:=by omega
         have q5:¬k=4:=by omega
         have q6:¬k=5:=by omega
         cases f1<;>cases f2<;>cases f3<;>simp [tn,tsh,tl,dZ,fQ] at kk<;>simp [tn,tsh,tl,g326,h1,nz,e9,arr,mA,q7,q2,q3,q4,q5,q6,kk,dZ,fQ,aJ]
       | false=>
         obtain ⟨q2,q3,q4,q6,q5⟩:=H2 rfl
         by_cases h4:k=4
         · have:=q5 h4
           subst h4
           cases g3:g.jv 3 with
           | true=>
             rw [g3] at c3
             cases f1<;>cases f2<;>cases f3<;>simp [tn,tsh,tl,dZ,fQ] at kk<;>simp [tn,tsh,tl,g326,h1,nz,e9,arr,mA,c3,kk,dZ,fQ,aJ]
           | false=>
             rw [g3] at c3
             have g1:g.jv 1=true:=by
               cases g1:g.jv 1 with
               | true=>rfl
               | false=>exact absurd ⟨g3,g1⟩ this
             rw [g1] at c1
             cases f1<;>cases f2<;>cases f3<;>simp [tn,tsh,tl,dZ,fQ] at kk<;>simp [tn,tsh,tl,g326,h1,nz,e9,arr,mA,c3,c1,kk,dZ,fQ,aJ]
         · cases f1<;>cases f2<;>cases f3<;>simp [tn,tsh,tl,dZ,fQ] at kk<;>simp [tn,tsh,tl,g326,h1,nz,e9,arr,mA,q2,q3,q4,h4,q6,kk,dZ,fQ,aJ]
     cases ar with
     | true=>
       have hq:=hab rfl
       by_cases h7:k<7
       · exact N1 hT hL (by omega) hG hl P h7 (hg.fM a (by rw [hq];simp)) (hg.fM b (by rw [hq];simp))
       · exact headed (fun _=>by omega) (by simp)
     | false=>
       by_cases h2:k<2
       · exact N2 hT hL (by omega) (by omega) hda hG hl hg P h2
       · by_cases h3:k=2
         · subst h3
           obtain ⟨e,f1,f2,f3,j',kk,ht,hj'⟩:=c349 hT hL (by omega) (by omega) hda hG hl hg hj
           refine ⟨e,f1,f2,f3,j',?_,ht,hj'⟩
           try simp [tn,tsh,tl] at e9 arr mA
           rw [aK (af:=g326) rfl (by simp [tn,tsh,tl,g326])]
           cases f1<;>cases f2<;>cases f3<;>simp [tn,tsh,tl,dZ,fQ] at kk<;>simp [tn,tsh,tl,g326,h1,nz,e9,arr,mA,kk,dZ,fQ,aJ]
         · by_cases h4:k=3
           · subst h4
             obtain ⟨e,f1,f2,f3,j',kk,ht,hj'⟩:=c350 hT hL (by omega) hD hG hl hg hj
             refine ⟨e,f1,f2,f3,j',?_,ht,hj'⟩
             try simp [tn,tsh,tl] at e9 arr mA
             rw [aK (af:=g326) rfl (by simp [tn,tsh,tl,g326])]
             cases f1<;>cases f2<;>cases f3<;>simp [tn,tsh,tl,dZ,fQ] at kk<;>simp [tn,tsh,tl,g326,h1,nz,e9,arr,mA,kk,dZ,fQ,aJ]
           · by_cases h5:k=5
             · subst h5
               exact LP hT hL (by omega) hG hl hg P
             · by_cases h6:k=4∧g.jv 3=false∧g.jv 1=false
               · obtain ⟨rfl,q1,q2⟩:=h6
                 exact N3 hT hL (by omega) hG hl hg P q1 q2
               · exact headed (by simp) (fun _=>⟨h2,h3,h4,h5,fun q=>fun w=>h6 ⟨q,w⟩⟩)
end Go.Ab.Lw
namespace Go.Ab.Lw
open Ev
theorem LS {s:List bS} {y:bS} (h:y∈s):0≤ng s y∧ng s y<s.length:=by
 unfold ng
 cases e:cA (fun x=>decide (x=y)) s with
 | none=>have:=lz.1 e y h;simp at this
 | some k=>
   have:k<s.length:=by
     clear h
     induction s generalizing k with
     | nil=>simp [cA] at e
     | cons a r ih=>
       simp only [cA] at e
       split at e
       · cases e;simp
       · simp only [Option.map_eq_some_iff] at e
         obtain ⟨j,hj,rfl⟩:=e
         have:=ih j hj
         simp;omega
   simp [jd];omega
theorem yl:∀{l out:List bS} {y:bS},y∈l→y∈l.foldl cv out
 | a::r,out,y,h=>by
   rw [List.foldl_cons]
   simp only [List.mem_cons] at h
   rcases h with rfl | h
   · refine oo ?_
     unfold cv;split
     · assumption
     · simp
   · exact yl h
theorem oA:∀{l out:List bS},(l.foldl cv out).length≤out.length+l.length
 | [],out=>by simp
 | a::r,out=>by
   have h:=oA (l:=r) (out:=cv out a)
   have:(cv out a).length≤out.length+1:=by unfold cv;split<;>simp
   simp only [List.foldl_cons,List.length_cons]
   omega
theorem rN {t:Ty}:t.d0.length≤t.nodes.length∧∀z∈t.nodes,z.kind=5→z.name∈t.d0:=by
 refine Ty.eE (p:=fun t=>t.d0.length≤t.nodes.length∧∀z∈t.nodes,z.kind=5→z.name∈t.d0) ?_ t
 intro t ih
 have key:∀l:List Ty,(∀a∈l,a.d0.length≤a.nodes.length)→(l.flatMap Ty.d0).length≤(l.flatMap Ty.nodes).length:=by
   intro l
   induction l with
   | nil=>intro _;simp
   | cons a r ihr=>
     intro h
     have h1:=h a (by simp)
     have h2:=ihr fun b hb=>h b (by simp [hb])
     simp only [List.flatMap_cons,List.length_append]
     omega
 rw [Ty.pT,Ty.bl]
 refine ⟨?_,?_⟩
 · have:=key t.args fun a ha=>(ih a ha).1
   have h1:(if t.kind=5 then [t.name] else []).length≤1:=by split<;>simp
   simp only [List.length_append,List.length_cons]
   omega
 · intro z hz hk
   simp only [List.mem_cons,List.mem_flatMap] at hz
   rcases hz with rfl | ⟨a,ha,hz⟩
   · rw [if_pos hk];simp
   · refine List.mem_append_right _ ?_
     simp only [List.mem_flatMap]
     exact ⟨a,ha,(ih a ha).2 z hz hk⟩
theorem LU {l:List bS} {t:Ty} (h:t.Kn (·=5)) (hl:∀z∈t.nodes,z.kind=5→z.name∈l):(t.lR l).Kn KC∧LH l.length (t.lR l):=by
 induction h with
 | @mk t hh _ ih=>
   have hself:t∈t.nodes:=by rw [Ty.bl];simp
   rw [Ty.BF]
   by_cases k:t.kind=5
   · have hp:=LS (hl t hself k)
     rw [if_pos ⟨k,hp.1⟩]
     refine ⟨.bare rfl (by simp [dd]),?_⟩
     intro y hy _
     rw [Ty.bl] at hy
     simp [dd] at hy
     subst hy
     exact hp
   · rw [if_neg (fun q=>k q.1)]
     have hk4:t.kind=4:=by
       by_cases q:t.kind=4
       · exact q
       · exact absurd (hh q).1 k
     refine ⟨.mk (fun q=>absurd hk4 q) ?_,?_⟩
     · intro x hx
       simp only [List.mem_map] at hx
       obtain ⟨a,ha,rfl⟩:=hx
       exact (ih a ha fun z hz=>hl z (F3 a ha z hz)).1
     · intro y hy hy2
       rw [Ty.bl] at hy
       simp only [List.mem_cons,List.mem_flatMap,List.mem_map] at hy
       rcases hy with rfl | ⟨b,⟨a,ha,rfl⟩,hy⟩
       · simp only at hy2;omega
       · exact (ih a ha fun z hz=>hl z (F3 a ha z hz)).2 y hy hy2
theorem ym {D:Dt→Prop} {lv:List Ty} (h:∀t∈lv,t.args=[]∧t.kind=5) {n:Nat} {t:Ty} (m:gm D lv n t):t.Kn (·=5):=by
 induction m with
 | leaf hl=>exact .bare (h _ hl).1 (fun _=>(h _ hl).2)
 | int=>exact .bare rfl (by simp [br])
 | gq _ _ _ ih=>exact .mk (by simp) ih
 | arrow _ _ iha ihb=>exact .mk (by simp) (by intro x hx;simp at hx;rcases hx with rfl | rfl<;>assumption)
theorem yn {h:Int}:∀{n:Nat} {x:Ty},x∈jX h n→∃i:Nat,x=na h i
 | 0,x,hx=>by simp [jX] at hx
 | n+1,x,hx=>by
   simp [jX] at hx
   rcases hx with hx | rfl
   · exact yn hx
   · exact ⟨n,rfl⟩
structure F' (t:Ty):Prop where
 ok:t.Ok
 kn:t.Kn (·=5)
 n:t.nodes.length≤90
theorem F'.both {t:Ty} (h:F' t):∃(u:Ty) (c:Sc),(aP AP).p 325 [t.pv]=some [u.pv]∧(aP AP).p 327 [t.pv,vI 98]=some [u.pv,c.pv]∧cb u∧kh c:=by
 obtain ⟨s1,s2⟩:=rN (t:=t)
 have hn:=h.n
 have k1:=c325 (S:=t.d0) (by omega) h.ok h.kn.cw (fun y hy=>hy)
 have k2:=c327 (S:=t.d0) (by omega) h.ok h.kn.cw (fun y hy=>hy) (h:=98)
 have hl:(cC t).length≤90:=by
   have:=oA (l:=t.d0) (out:=[])
   simp at this
   unfold cC;omega
 obtain ⟨b1,b2⟩:=LU (l:=cC t) h.kn (fun z hz hk=>yl (s2 z hz hk))
 have sc:kh ⟨(cC t).length,t.lR (cC t)⟩:=⟨BH h.ok,b1,(cC t).length,rfl,by omega,b2⟩
 refine ⟨_,_,k1,k2,?_,sc⟩
 refine yg sc (by rw [kQ]) ?_
 intro a ha
 obtain ⟨i,rfl⟩:=yn ha
 exact ⟨cO rfl,.bare rfl (by simp [na])⟩
end Go.Ab.Lw
namespace Go.Ab.Lw
open Ev
structure Bd where
 pos:Int
 rc:Bool
 name:bS
 sg:Bool
 sig:Ty
 body:Ex
def Bd.cells (b:Bd):List PV:=[vI b.pos,.bool b.rc,.str b.name,.bool b.sg,vI b.sig.kind,.str b.sig.name,vI b.sig.id,vI b.sig.home,.aD (b.sig.args.map Ty.pv)]++b.body.cells
def Bd.pv (b:Bd):PV:=.agg b.cells
@[simp] theorem Bd.kI (b:Bd):b.pv=.agg [vI b.pos,.bool b.rc,.str b.name,.bool b.sg,vI b.sig.kind,.str b.sig.name,vI b.sig.id,vI b.sig.home,.aD (b.sig.args.map Ty.pv),.int .i64 b.body.kind,.int .i64 b.body.pos,.str b.body.name,.int .i64 b.body.num,.aD (b.body.kids.map Ex.pv),.aD (b.body.bt.map Ar.pv),.int .i64 b.body.ty.kind,.str b.body.ty.name,.int .i64 b.body.ty.id,.int .i64 b.body.ty.home,.aD (b.body.ty.args.map Ty.pv)]:=by
 rw [Bd.pv,Bd.cells,Ex.bA];rfl
theorem kT:Row Bd.cells 20:=⟨by omega,fun b=>by rw [Bd.cells,Ex.bA];rfl⟩
theorem Qa:El Bd.pv 20 true:=⟨fun b=>by simp,fun b=>by simp⟩
@[simp] theorem Ox {l:List Bd}:bH 20 (l.map Bd.pv)=true:=Qa.head l
theorem BO {l:List Bd}:((eL (bI Bd.cells l)).bind (eA 20 true l.length)).map PV.aD=some (.aD (l.map Bd.pv)):=pP kT
theorem N4 {l:List Bd}:((l.map Bd.pv).flatMap bw).map AV.pv=bI Bd.cells l:=pQ kT
structure oB (N:Nat) (b:Bd):Prop where
 sc:xU b.body
 h:b.body.vd N
 so:b.sig.Ok
 sw:b.sig.Cw
 sn:b.sig.nodes.length≤90
def pZ (L:List Int) (k:Nat) (bs:List Bd) (j:Int):Sh:=[]++[some [.pv (.aD (L.map vI)),.pv (vI j)]]++(nn k++[some (bI Bd.cells bs)])
theorem iP {L:List Int} {k:Nat} {bs:List Bd}:Tape L 0 (pZ L k bs):=CA (A:=[]) (by intro cs h;simp at h) ((fw k).app (a7.one cP))
theorem CB {L:List Int} {k:Nat} {bs:List Bd} {j:Int}:(pZ L k bs j)[1+k]?=some (some (bI Bd.cells bs)):=by
 simp [pZ,List.getElem?_append_right,Nat.add_comm,nn]
theorem LV {L:List Int} {k:Nat} {bs:List Bd} {j:Int} {F:List AV}:(pZ L k bs j).set (1+k) none++[some F]=[]++[some [.pv (.aD (L.map vI)),.pv (vI j)]]++(nn (k+1)++[some F]):=by
 simp [pZ,nn,Nat.add_comm 1 k,List.set_append,List.replicate_succ']
theorem LW {L:List Int} {k:Nat} {bs:List Bd} {j:Int}:(pZ L k bs j).length=1+k+1:=by simp [pZ,nn];omega
def Qz:List bS:=[[112],[113],[114],[115]]
theorem LX {i:Nat} {s:bS} (h:Qz[i]?=some s):([PV.str [112],.str [113],.str [114],.str [115]]:List PV)[i]?=some (.str s):=by
 have:([PV.str [112],.str [113],.str [114],.str [115]]:List PV)=Qz.map PV.str:=rfl
 rw [this];simp [h]
end Go.Ab.Lw
namespace Go.Ab.Lw
open Ev
structure It (L:List Int) (tm:Nat) (TP:Int→Sh) (ds:List Dt) (l:List En) (nm:bS) (i:Nat) (r4 r3 r2:Int) (x1 x u:Ty) (sc c':Sc) (e:Ex) (A:List AV) (b10 b11:Bool) (j1 j2 j3 j4 j5 j6:Nat):Prop where
 e1:(aP AP).i 68 [.aX tm 0,.pv (vI 4)] (TP i) []=some ([.pv (vI r4)],TP j1,[])
 k0:(aP AP).p 67 []=some [.aD (kJ.map Ty.pv)]
 e2:(aP AP).i 27 [.aX tm 0,.pv (.aD (ds.map Dt.pv)),.pv (.aD (kJ.map Ty.pv)),.pv (vI 2)] (TP j1) []=some ([x1.av],TP j2,[])
 e3:(aP AP).i 68 [.aX tm 0,.pv (vI 3)] (TP j2) []=some ([.pv (vI r3)],TP j3,[])
 e4:if r3=0 then (aP AP).i 27 [.aX tm 0,.pv (.aD (ds.map Dt.pv)),.pv (.aD []),.pv (vI 2)] (TP j3) []=some ([x.av],TP j4,[]) else x=x1∧j4=j3
 e5:(aP AP).i 68 [.aX tm 0,.pv (vI 2)] (TP j4) []=some ([.pv (vI r2)],TP j5,[])
 k1:(aP AP).p 325 [x.pv]=some [u.pv]
 k2:(aP AP).p 327 [x.pv,vI 98]=some [u.pv,sc.pv]
 k3:(aP AP).p 176 [u.pv]=some [(As.mk 0 u).pv]
 k4:(aP AP).p 179 [.aD (l.map En.pv),.str nm,(As.mk 0 u).pv]=some [.aD ((l++[En.mk nm ⟨0,u⟩]).map En.pv)]
 e6:(aP AP).i 326 [.aX tm 0,.pv (.aD (ds.map Dt.pv)),.pv (.aD ((if r4=1 then l++[⟨nm,⟨0,u⟩⟩] else l).map En.pv)),.pv u.pv,.pv (vI 3)] (TP j5) []=some ([.agg A],TP j6,[])
 hA:Ra e A
 k5:(aP AP).p 307 [e.pv,vI 10]=some [.bool b10]
 k6:(aP AP).p 307 [e.pv,vI 11]=some [.bool b11]
 k7:(aP AP).p 34 []=some [br.pv]
 k8:(aP AP).p 176 [br.pv]=some [(As.mk 0 br).pv]
 hc:c'=if ¬r2=0∧(b10=true∨b11=true) then ⟨0,br⟩ else sc
 k9:(aP AP).p 179 [.aD (l.map En.pv),.str nm,c'.pv]=some [.aD ((l++[En.mk nm c']).map En.pv)]
 MM:kh c'
 ty:u_ 60 e
 sx:F' x
 hj:j6≤L.length
theorem Qb {L:List Int} {tm:Nat} {TP:Int→Sh} (hT:Tape L tm TP) (hL:Sm L) {ds:List Dt} (hD:rP ds) {l:List En} (hl:Ctx 900 l) {i:Nat} (hi:i≤L.length) (nm:bS) :
   ∃r4 r3 r2 x1 x u sc c' e A b10 b11 j1 j2 j3 j4 j5 j6,It L tm TP ds l nm i r4 r3 r2 x1 x u sc c' e A b10 b11 j1 j2 j3 j4 j5 j6:=by
 have hdl:=hD.len
 have hda:∀d∈ds,d.params.length≤8:=fun d hd=>(dU d (hD.all d hd)).1
 have hll:=hl.len
 have nL:∀t∈kJ,t.args=[]∧t.kind=5:=by
   intro t ht
   simp [kJ] at ht
   rcases ht with rfl | rfl | rfl<;>exact ⟨rfl,rfl⟩
 have sig:∀{lv:List Ty} {x:Ty},(∀t∈lv,t.args=[]∧t.kind=5)→gm (·∈ds) lv 2 x→F' x:=fun h m=>⟨m.ok hda (fun t ht=>(h t ht).1),ym h m,by have:=m.small hda (fun t ht=>(h t ht).1);omega⟩
 obtain ⟨r4,j1,e1,_,_,hj1⟩:=mz hT hL hi (n:=4) (by omega) (by omega)
 obtain ⟨x1,j2,e2,m1,hj2⟩:=NZ hT hL (ds:=ds) (by omega) hda (lv:=kJ) (by simp [Sm,kJ]) 2 (by omega) j1 hj1
 obtain ⟨r3,j3,e3,_,_,hj3⟩:=mz hT hL hj2 (n:=3) (by omega) (by omega)
 obtain ⟨x,j4,e4,sx,hj4⟩:∃(x:Ty) (j4:Nat),(if r3=0 then (aP AP).i 27 [.aX tm 0,.pv (.aD (ds.map Dt.pv)),.pv (.aD []),.pv (vI 2)] (TP j3) []=some ([x.av],TP j4,[]) else x=x1∧j4=j3)∧F' x∧j4≤L.length:=by
   by_cases h:r3=0
   · obtain ⟨x,j4,e4,m,hj4⟩:=NZ hT hL (ds:=ds) (by omega) hda (lv:=[]) (by simp [Sm]) 2 (by omega) j3 hj3
     exact ⟨x,j4,by rw [if_pos h];exact e4,sig (by simp) m,hj4⟩
   · exact ⟨x1,j3,by rw [if_neg h];exact ⟨rfl,rfl⟩,sig nL m1,hj3⟩
 obtain ⟨r2,j5,e5,_,_,hj5⟩:=mz hT hL hj4 (n:=2) (by omega) (by omega)
 obtain ⟨u,sc,k1,k2,gu,hsc⟩:=sx.both
 have k3:=c176 (t:=u)
 have k4:=c179 (l:=l) (by unfold Sm;omega) (n:=nm) (c:=⟨0,u⟩)
 have hli:Ctx (1000-20*3) (if r4=1 then l++[⟨nm,⟨0,u⟩⟩] else l):=by
   split
   · exact hl.push gu.mono (by omega)
   · exact hl.gB (by omega)
 obtain ⟨e,f1,f2,f3,j6,e6,he,hj6⟩:=c326 hT hL hD 3 (by omega) j5 _ u hj5 hli gu
 obtain ⟨b10,k5⟩:=c307 he.sc.ok 10
 obtain ⟨b11,k6⟩:=c307 he.sc.ok 11
 have MM:kh (if ¬r2=0∧(b10=true∨b11=true) then ⟨0,br⟩ else sc):=by
   split
   · exact pW.mono
   · exact hsc
 exact ⟨r4,r3,r2,x1,x,u,sc,_,e,_,b10,b11,j1,j2,j3,j4,j5,j6,e1,c67,e2,e3,e4,e5,k1,k2,k3,k4,e6,dY f1 f2 f3 e,k5,k6,c34,c176,rfl,c179 (by unfold Sm;omega),MM,he.up (by omega),sx,hj6⟩
def kU (nm:bS) (r4 r2:Int) (x:Ty) (e:Ex):Bd:=⟨0,decide (r4=1),nm,decide (r2=0),if r2=0 then x else bN,e⟩
theorem CC {nm:bS} {r4 r2:Int} {x:Ty} {e:Ex} (sx:F' x) (ty:u_ 60 e):oB 100 (kU nm r4 r2 x e):=by
 refine ⟨ty.sc,kS ty.h (by omega),?_,?_,?_⟩<;>simp only [kU]<;>split
 · exact sx.ok
 · exact h_
 · exact sx.kn.cw
 · exact ia
 · exact sx.n
 · rw [Ty.bl];simp [bN]
theorem Qc {L:List Int} (hL:Sm L) {ds:List Dt} (hD:rP ds) {l:List En} (hl:Ctx 900 l) {N i k:Nat} (hi4:i<N) (hN:N≤4) {bs:List Bd} (hb0:bs.length=i) {j:Nat} (hj:j≤L.length):∃(b:Bd) (l':List En) (j':Nat),oB 100 b∧Ctx (l.length+1) l'∧j'≤L.length ∧
   cl AP g306L0 ⟨[(4,.az 4 0),(5,.aX 0 0),(6,.az 6 0),(7,.pv (.aD (l.map En.pv))),(8,.pv (vI N)),(9,.pv (vI i))],[(4,[.own [] 0,.own [] 1]),(6,[.pv (.aD (ds.map Dt.pv)),.bq (1+k) 20 bs.length true])],pZ L k bs j,[0,0]⟩ =
   cl AP g306L0 ⟨[(4,.az 4 0),(5,.aX 0 0),(6,.az 6 0),(7,.pv (.aD (l'.map En.pv))),(8,.pv (vI N)),(9,.pv (vI (i+1:Nat)))],[(4,[.own [] 0,.own [] 1]),(6,[.pv (.aD (ds.map Dt.pv)),.bq (1+k+1) 20 (bs++[b]).length true])],pZ L (k+1) (bs++[b]) j',[0,0]⟩:=by
 obtain ⟨nm,hnm⟩:=bp (l:=Qz) (i:=i) (by simp [Qz];omega)
 have hnm':=LX hnm
 have hT:=iP (L:=L) (k:=k) (bs:=bs)
 obtain ⟨r4,r3,r2,x1,x,u,sc,c',e,A,b10,b11,j1,j2,j3,j4,j5,j6,I⟩:=Qb hT hL hD hl hj nm
 obtain ⟨e1,k0,e2,e3,e4,e5,k1,k2,k3,k4,e6,hA,k5,k6,k7,k8,hc,k9,MM,ty,sx,hj6⟩:=I
 refine ⟨kU nm r4 r2 x e,l++[⟨nm,c'⟩],j6,CC sx ty,⟨by simp,by
   intro y hy;simp at hy;rcases hy with hy | rfl
   · exact hl.P9 y hy
   · exact MM⟩,hj6,?_⟩
 have tn:=hT.norm
 have tsh:=hT.shift
 have tl:=hT.take
 have g1:=CB (L:=L) (k:=k) (bs:=bs) (j:=j6)
 have g2:=LV (L:=L) (k:=k) (bs:=bs) (j:=j6) (F:=bI Bd.cells (bs++[kU nm r4 r2 x e]))
 have g3:=LW (L:=L) (k:=k) (bs:=bs) (j:=j6)
 have hfl:bI Bd.cells (bs++[kU nm r4 r2 x e])=bI Bd.cells bs++(kU nm r4 r2 x e).cells.map .pv:=by rw [uR];simp [bI]
 have ec:=Ex.bA e
 have bc:(kU nm r4 r2 x e).cells=[vI 0,.bool (decide (r4=1)),.str nm,.bool (decide (r2=0)),vI (if r2=0 then x else bN).kind,.str (if r2=0 then x else bN).name,vI (if r2=0 then x else bN).id,vI (if r2=0 then x else bN).home,.aD ((if r2=0 then x else bN).args.map Ty.pv)]++e.cells:=rfl
 have r1:(bI Bd.cells bs).length=bs.length*20:=d3 kT
 have r2':cQ (bI Bd.cells bs)=false:=dh cP
 have r3':(bI Bd.cells bs).take (bs.length*20)=bI Bd.cells bs:=List.take_of_length_le (by omega)
 have hb2:(bs.length+1)*256≤140737488355328:=by omega
 have hi':(i:Int)<N:=by omega
 have hq:a7 (pZ L (k+1) (bs++[kU nm r4 r2 x e]) j6):=(iP (L:=L) (k:=k+1) (bs:=bs++[kU nm r4 r2 x e])).quiet j6
 have tn2:=hq.norm
 have sheq:pZ L (k+1) (bs++[kU nm r4 r2 x e]) j6=(pZ L k bs j6).set (1+k) none++[some (bI Bd.cells bs++(kU nm r4 r2 x e).cells.map .pv)]:=by rw [←hfl,g2];rfl
 rw [sheq] at tn2 ⊢
 rw [bc] at tn2 ⊢
 generalize bI Bd.cells bs=F at *
 have tA:A.take 11=A:=List.take_of_length_le (by rw [hA.len];omega)
 generalize hTP:pZ L k bs=TP at *
 clear g2 hfl sheq
 generalize hS1:(TP j6).set (1+k) none=S1 at *
 rw [ec]
 rw [ec] at tn2
 simp [Ty.av] at e1 k0 e2 e3 e5 k1 k2 k3 k4 e6 k5 k6 k7 k8 k9
 by_cases h4:r4=1
 · by_cases h3:r3=0
   · simp [h3,Ty.av] at e4 e3
     by_cases h2:r2=0
     · simp [h4,h2,bN] at e1 e5 e6 hc tn2
       subst hc
       try simp at k9
       conv=>lhs;rw [g306L0e]
       simp (disch:=omega) [-getElem?_pos,g306B0,hi',hnm',e1,k0,e2,e3,e4,e5,k1,k2,k3,k4,e6,k5,k6,k7,k8,k9,h4,h3,h2,tn,tsh,tl,g1,g3,r1,r2',r3',hb2,tn2,au,aJ,hA.de,hA.flat,hA.g_,hA.len,hA.leaf,tA,ec,hS1,bN]
     · have h2b:(r2 == 0)=false:=by simpa using h2
       simp [h4,h2,bN] at e1 e5 e6 hc tn2
       cases b10
       · cases b11
         · simp at hc
           subst hc
           try simp at k9
           conv=>lhs;rw [g306L0e]
           simp (disch:=omega) [-getElem?_pos,g306B0,hi',hnm',e1,k0,e2,e3,e4,e5,k1,k2,k3,k4,e6,k5,k6,k7,k8,k9,h4,h3,h2,h2b,tn,tsh,tl,g1,g3,r1,r2',r3',hb2,tn2,au,aJ,hA.de,hA.flat,hA.g_,hA.len,hA.leaf,tA,ec,hS1,bN]
         · simp at hc
           subst hc
           simp [br] at k7 k8 k9
           conv=>lhs;rw [g306L0e]
           simp (disch:=omega) [-getElem?_pos,g306B0,hi',hnm',e1,k0,e2,e3,e4,e5,k1,k2,k3,k4,e6,k5,k6,k7,k8,k9,h4,h3,h2,h2b,tn,tsh,tl,g1,g3,r1,r2',r3',hb2,tn2,au,aJ,hA.de,hA.flat,hA.g_,hA.len,hA.leaf,tA,ec,hS1,bN,br]
       · simp at hc
         subst hc
         simp [br] at k7 k8 k9
         conv=>lhs;rw [g306L0e]
         simp (disch:=omega) [-getElem?_pos,g306B0,hi',hnm',e1,k0,e2,e3,e4,e5,k1,k2,k3,k4,e6,k5,k6,k7,k8,k9,h4,h3,h2,h2b,tn,tsh,tl,g1,g3,r1,r2',r3',hb2,tn2,au,aJ,hA.de,hA.flat,hA.g_,hA.len,hA.leaf,tA,ec,hS1,bN,br]
   · simp [h3] at e4
     obtain ⟨rfl,rfl⟩:=e4
     by_cases h2:r2=0
     · simp [h4,h2,bN] at e1 e5 e6 hc tn2
       subst hc
       try simp at k9
       conv=>lhs;rw [g306L0e]
       simp (disch:=omega) [-getElem?_pos,g306B0,hi',hnm',e1,k0,e2,e3,e5,k1,k2,k3,k4,e6,k5,k6,k7,k8,k9,h4,h3,h2,tn,tsh,tl,g1,g3,r1,r2',r3',hb2,tn2,au,aJ,hA.de,hA.flat,hA.g_,hA.len,hA.leaf,tA,ec,hS1,bN]
     · have h2b:(r2 == 0)=false:=by simpa using h2
       simp [h4,h2,bN] at e1 e5 e6 hc tn2
       cases b10
       · cases b11
         · simp at hc
           subst hc
           try simp at k9
           conv=>lhs;rw [g306L0e]
           simp (disch:=omega) [-getElem?_pos,g306B0,hi',hnm',e1,k0,e2,e3,e5,k1,k2,k3,k4,e6,k5,k6,k7,k8,k9,h4,h3,h2,h2b,tn,tsh,tl,g1,g3,r1,r2',r3',hb2,tn2,au,aJ,hA.de,hA.flat,hA.g_,hA.len,hA.leaf,tA,ec,hS1,bN]
         · simp at hc
           subst hc
           simp [br] at k7 k8 k9
           conv=>lhs;rw [g306L0e]
           simp (disch:=omega) [-getElem?_pos,g306B0,hi',hnm',e1,k0,e2,e3,e5,k1,k2,k3,k4,e6,k5,k6,k7,k8,k9,h4,h3,h2,h2b,tn,tsh,tl,g1,g3,r1,r2',r3',hb2,tn2,au,aJ,hA.de,hA.flat,hA.g_,hA.len,hA.leaf,tA,ec,hS1,bN,br]
       · simp at hc
         subst hc
         simp [br] at k7 k8 k9
         conv=>lhs;rw [g306L0e]
         simp (disch:=omega) [-getElem?_pos,g306B0,hi',hnm',e1,k0,e2,e3,e5,k1,k2,k3,k4,e6,k5,k6,k7,k8,k9,h4,h3,h2,h2b,tn,tsh,tl,g1,g3,r1,r2',r3',hb2,tn2,au,aJ,hA.de,hA.flat,hA.g_,hA.len,hA.leaf,tA,ec,hS1,bN,br]
 · have h4b:(r4 == 1)=false:=by simpa using h4
   by_cases h3:r3=0
   · simp [h3,Ty.av] at e4 e3
     by_cases h2:r2=0
     · simp [h4,h2,bN] at e1 e5 e6 hc tn2
       subst hc
       try simp at k9
       conv=>lhs;rw [g306L0e]
       simp (disch:=omega) [-getElem?_pos,g306B0,hi',hnm',e1,k0,e2,e3,e4,e5,k1,k2,k3,k4,e6,k5,k6,k7,k8,k9,h4,h3,h2,h4b,tn,tsh,tl,g1,g3,r1,r2',r3',hb2,tn2,au,aJ,hA.de,hA.flat,hA.g_,hA.len,hA.leaf,tA,ec,hS1,bN]
     · have h2b:(r2 == 0)=false:=by simpa using h2
       simp [h4,h2,bN] at e1 e5 e6 hc tn2
       cases b10
       · cases b11
         · simp at hc
           subst hc
           try simp at k9
           conv=>lhs;rw [g306L0e]
           simp (disch:=omega) [-getElem?_pos,g306B0,hi',hnm',e1,k0,e2,e3,e4,e5,k1,k2,k3,k4,e6,k5,k6,k7,k8,k9,h4,h3,h2,h2b,h4b,tn,tsh,tl,g1,g3,r1,r2',r3',hb2,tn2,au,aJ,hA.de,hA.flat,hA.g_,hA.len,hA.leaf,tA,ec,hS1,bN]
         · simp at hc
           subst hc
           simp [br] at k7 k8 k9
           conv=>lhs;rw [g306L0e]
           simp (disch:=omega) [-getElem?_pos,g306B0,hi',hnm',e1,k0,e2,e3,e4,e5,k1,k2,k3,k4,e6,k5,k6,k7,k8,k9,h4,h3,h2,h2b,h4b,tn,tsh,tl,g1,g3,r1,r2',r3',hb2,tn2,au,aJ,hA.de,hA.flat,hA.g_,hA.len,hA.leaf,tA,ec,hS1,bN,br]
       · simp at hc
         subst hc
         simp [br] at k7 k8 k9
         conv=>lhs;rw [g306L0e]
         simp (disch:=omega) [-getElem?_pos,g306B0,hi',hnm',e1,k0,e2,e3,e4,e5,k1,k2,k3,k4,e6,k5,k6,k7,k8,k9,h4,h3,h2,h2b,h4b,tn,tsh,tl,g1,g3,r1,r2',r3',hb2,tn2,au,aJ,hA.de,hA.flat,hA.g_,hA.len,hA.leaf,tA,ec,hS1,bN,br]
   · simp [h3] at e4
     obtain ⟨rfl,rfl⟩:=e4
     by_cases h2:r2=0
     · simp [h4,h2,bN] at e1 e5 e6 hc tn2
       subst hc
       try simp at k9
       conv=>lhs;rw [g306L0e]
       simp (disch:=omega) [-getElem?_pos,g306B0,hi',hnm',e1,k0,e2,e3,e5,k1,k2,k3,k4,e6,k5,k6,k7,k8,k9,h4,h3,h2,h4b,tn,tsh,tl,g1,g3,r1,r2',r3',hb2,tn2,au,aJ,hA.de,hA.flat,hA.g_,hA.len,hA.leaf,tA,ec,hS1,bN]
     · have h2b:(r2 == 0)=false:=by simpa using h2
       simp [h4,h2,bN] at e1 e5 e6 hc tn2
       cases b10
       · cases b11
         · simp at hc
           subst hc
           try simp at k9
           conv=>lhs;rw [g306L0e]
           simp (disch:=omega) [-getElem?_pos,g306B0,hi',hnm',e1,k0,e2,e3,e5,k1,k2,k3,k4,e6,k5,k6,k7,k8,k9,h4,h3,h2,h2b,h4b,tn,tsh,tl,g1,g3,r1,r2',r3',hb2,tn2,au,aJ,hA.de,hA.flat,hA.g_,hA.len,hA.leaf,tA,ec,hS1,bN]
         · simp at hc
           subst hc
           simp [br] at k7 k8 k9
           conv=>lhs;rw [g306L0e]
           simp (disch:=omega) [-getElem?_pos,g306B0,hi',hnm',e1,k0,e2,e3,e5,k1,k2,k3,k4,e6,k5,k6,k7,k8,k9,h4,h3,h2,h2b,h4b,tn,tsh,tl,g1,g3,r1,r2',r3',hb2,tn2,au,aJ,hA.de,hA.flat,hA.g_,hA.len,hA.leaf,tA,ec,hS1,bN,br]
       · simp at hc
         subst hc
         simp [br] at k7 k8 k9
         conv=>lhs;rw [g306L0e]
         simp (disch:=omega) [-getElem?_pos,g306B0,hi',hnm',e1,k0,e2,e3,e5,k1,k2,k3,k4,e6,k5,k6,k7,k8,k9,h4,h3,h2,h2b,h4b,tn,tsh,tl,g1,g3,r1,r2',r3',hb2,tn2,au,aJ,hA.de,hA.flat,hA.g_,hA.len,hA.leaf,tA,ec,hS1,bN,br]
end Go.Ab.Lw
namespace Go.Ab.Lw
open Ev
theorem CD {L:List Int}:Tape L 0 (tp L) where
 get:=fun i=>by simp
 set:=fun i j=>by simp
 quiet:=fun i=>a7.one (by intro v hv;simp at hv;rcases hv with rfl | rfl<;>exact ⟨_,rfl⟩)
theorem Qd {L:List Int} (hL:Sm L) {ds:List Dt} (hD:rP ds) {N:Nat} (h0:0<N) (hN:N≤4) {j:Nat} (hj:j≤L.length):∃(b:Bd) (l':List En) (j':Nat),oB 100 b∧Ctx 1 l'∧j'≤L.length ∧
   cl AP g306L0 ⟨[(4,.az 4 0),(5,.aX 0 0),(6,.az 6 0),(7,.own [] 0),(8,.pv (vI N)),(9,.pv (vI 0))],[(4,[.own [] 1,.own [] 2]),(6,[.pv (.aD (ds.map Dt.pv)),.own [] 3])],tp L j,[0,0,0,0]⟩ =
   cl AP g306L0 ⟨[(4,.az 4 0),(5,.aX 0 0),(6,.az 6 0),(7,.pv (.aD (l'.map En.pv))),(8,.pv (vI N)),(9,.pv (vI 1))],[(4,[.own [] 0,.own [] 1]),(6,[.pv (.aD (ds.map Dt.pv)),.bq 1 20 1 true])],pZ L 0 [b] j',[0,0]⟩:=by
 have hT:=CD (L:=L)
 obtain ⟨r4,r3,r2,x1,x,u,sc,c',e,A,b10,b11,j1,j2,j3,j4,j5,j6,I⟩:=Qb hT hL hD (l:=[]) ⟨by simp,by simp⟩ hj [112]
 obtain ⟨e1,k0,e2,e3,e4,e5,k1,k2,k3,k4,e6,hA,k5,k6,k7,k8,hc,k9,MM,ty,sx,hj6⟩:=I
 refine ⟨kU [112] r4 r2 x e,[⟨[112],c'⟩],j6,CC sx ty,⟨by simp,by
   intro y hy;simp at hy;subst hy
   exact MM⟩,hj6,?_⟩
 have tn:=hT.norm
 have tsh:=hT.shift
 have tl:=hT.take
 have g3:∀i,(tp L i).length=1:=fun i=>rfl
 have ec:=Ex.bA e
 have hi':=h0
 have hz:N≠0:=by omega
 have hq:a7 (pZ L 0 [kU [112] r4 r2 x e] j6):=(iP (L:=L) (k:=0) (bs:=[kU [112] r4 r2 x e])).quiet j6
 have tn2:=hq.norm
 have bc:(kU [112] r4 r2 x e).cells=[vI 0,.bool (decide (r4=1)),.str [112],.bool (decide (r2=0)),vI (if r2=0 then x else bN).kind,.str (if r2=0 then x else bN).name,vI (if r2=0 then x else bN).id,vI (if r2=0 then x else bN).home,.aD ((if r2=0 then x else bN).args.map Ty.pv)]++e.cells:=rfl
 have sheq:pZ L 0 [kU [112] r4 r2 x e] j6=tp L j6++[some ((kU [112] r4 r2 x e).cells.map .pv)]:=by simp [pZ,nn,bI]
 rw [sheq] at tn2 ⊢
 rw [bc] at tn2 ⊢
 generalize tp L=TP at *
 have tA:A.take 11=A:=List.take_of_length_le (by rw [hA.len];omega)
 clear sheq
 rw [ec]
 rw [ec] at tn2
 simp [Ty.av] at e1 k0 e2 e3 e5 k1 k2 k3 k4 e6 k5 k6 k7 k8 k9
 by_cases h4:r4=1
 · by_cases h3:r3=0
   · simp [h3,Ty.av] at e4 e3
     by_cases h2:r2=0
     · simp [h4,h2,bN] at e1 e5 e6 hc tn2
       subst hc
       try simp at k9
       conv=>lhs;rw [g306L0e]
       simp (disch:=omega) [-getElem?_pos,g306B0,hi',hz,e1,k0,e2,e3,e4,e5,k1,k2,k3,k4,e6,k5,k6,k7,k8,k9,h4,h3,h2,tn,tsh,tl,g3,tn2,au,aJ,hA.de,hA.flat,hA.g_,hA.len,hA.leaf,tA,ec,bN]
       conv=>lhs;rw [g306L0e]
       conv=>rhs;rw [g306L0e]
       simp [h4,h2,tn2,bN]
     · have h2b:(r2 == 0)=false:=by simpa using h2
       simp [h4,h2,bN] at e1 e5 e6 hc tn2
       cases b10
       · cases b11
         · simp at hc
           subst hc
           try simp at k9
           conv=>lhs;rw [g306L0e]
           simp (disch:=omega) [-getElem?_pos,g306B0,hi',hz,e1,k0,e2,e3,e4,e5,k1,k2,k3,k4,e6,k5,k6,k7,k8,k9,h4,h3,h2,h2b,tn,tsh,tl,g3,tn2,au,aJ,hA.de,hA.flat,hA.g_,hA.len,hA.leaf,tA,ec,bN]
           conv=>lhs;rw [g306L0e]
           conv=>rhs;rw [g306L0e]
           simp [h4,h2,h2b,tn2,bN]
         · simp at hc
           subst hc
           simp [br] at k7 k8 k9
           conv=>lhs;rw [g306L0e]
           simp (disch:=omega) [-getElem?_pos,g306B0,hi',hz,e1,k0,e2,e3,e4,e5,k1,k2,k3,k4,e6,k5,k6,k7,k8,k9,h4,h3,h2,h2b,tn,tsh,tl,g3,tn2,au,aJ,hA.de,hA.flat,hA.g_,hA.len,hA.leaf,tA,ec,bN,br]
           conv=>lhs;rw [g306L0e]
           conv=>rhs;rw [g306L0e]
           simp [h4,h2,h2b,tn2,bN]
       · simp at hc
         subst hc
         simp [br] at k7 k8 k9
         conv=>lhs;rw [g306L0e]
         simp (disch:=omega) [-getElem?_pos,g306B0,hi',hz,e1,k0,e2,e3,e4,e5,k1,k2,k3,k4,e6,k5,k6,k7,k8,k9,h4,h3,h2,h2b,tn,tsh,tl,g3,tn2,au,aJ,hA.de,hA.flat,hA.g_,hA.len,hA.leaf,tA,ec,bN,br]
         conv=>lhs;rw [g306L0e]
         conv=>rhs;rw [g306L0e]
         simp [h4,h2,h2b,tn2,bN]
   · simp [h3] at e4
     obtain ⟨rfl,rfl⟩:=e4
     by_cases h2:r2=0
     · simp [h4,h2,bN] at e1 e5 e6 hc tn2
       subst hc
       try simp at k9
       conv=>lhs;rw [g306L0e]
       simp (disch:=omega) [-getElem?_pos,g306B0,hi',hz,e1,k0,e2,e3,e5,k1,k2,k3,k4,e6,k5,k6,k7,k8,k9,h4,h3,h2,tn,tsh,tl,g3,tn2,au,aJ,hA.de,hA.flat,hA.g_,hA.len,hA.leaf,tA,ec,bN]
       conv=>lhs;rw [g306L0e]
       conv=>rhs;rw [g306L0e]
       simp [h4,h2,tn2,bN]
     · have h2b:(r2 == 0)=false:=by simpa using h2
       simp [h4,h2,bN] at e1 e5 e6 hc tn2
       cases b10
       · cases b11
         · simp at hc
           subst hc
           try simp at k9
           conv=>lhs;rw [g306L0e]
           simp (disch:=omega) [-getElem?_pos,g306B0,hi',hz,e1,k0,e2,e3,e5,k1,k2,k3,k4,e6,k5,k6,k7,k8,k9,h4,h3,h2,h2b,tn,tsh,tl,g3,tn2,au,aJ,hA.de,hA.flat,hA.g_,hA.len,hA.leaf,tA,ec,bN]
           conv=>lhs;rw [g306L0e]
           conv=>rhs;rw [g306L0e]
           simp [h4,h2,h2b,tn2,bN]
         · simp at hc
           subst hc
           simp [br] at k7 k8 k9
           conv=>lhs;rw [g306L0e]
           simp (disch:=omega) [-getElem?_pos,g306B0,hi',hz,e1,k0,e2,e3,e5,k1,k2,k3,k4,e6,k5,k6,k7,k8,k9,h4,h3,h2,h2b,tn,tsh,tl,g3,tn2,au,aJ,hA.de,hA.flat,hA.g_,hA.len,hA.leaf,tA,ec,bN,br]
           conv=>lhs;rw [g306L0e]
           conv=>rhs;rw [g306L0e]
           simp [h4,h2,h2b,tn2,bN]
       · simp at hc
         subst hc
         simp [br] at k7 k8 k9
         conv=>lhs;rw [g306L0e]
         simp (disch:=omega) [-getElem?_pos,g306B0,hi',hz,e1,k0,e2,e3,e5,k1,k2,k3,k4,e6,k5,k6,k7,k8,k9,h4,h3,h2,h2b,tn,tsh,tl,g3,tn2,au,aJ,hA.de,hA.flat,hA.g_,hA.len,hA.leaf,tA,ec,bN,br]
         conv=>lhs;rw [g306L0e]
         conv=>rhs;rw [g306L0e]
         simp [h4,h2,h2b,tn2,bN]
 · have h4b:(r4 == 1)=false:=by simpa using h4
   by_cases h3:r3=0
   · simp [h3,Ty.av] at e4 e3
     by_cases h2:r2=0
     · simp [h4,h2,bN] at e1 e5 e6 hc tn2
       subst hc
       try simp at k9
       conv=>lhs;rw [g306L0e]
       simp (disch:=omega) [-getElem?_pos,g306B0,hi',hz,e1,k0,e2,e3,e4,e5,k1,k2,k3,k4,e6,k5,k6,k7,k8,k9,h4,h3,h2,h4b,tn,tsh,tl,g3,tn2,au,aJ,hA.de,hA.flat,hA.g_,hA.len,hA.leaf,tA,ec,bN]
       conv=>lhs;rw [g306L0e]
       conv=>rhs;rw [g306L0e]
       simp [h4,h2,h4b,tn2,bN]
     · have h2b:(r2 == 0)=false:=by simpa using h2
       simp [h4,h2,bN] at e1 e5 e6 hc tn2
       cases b10
       · cases b11
         · simp at hc
           subst hc
           try simp at k9
           conv=>lhs;rw [g306L0e]
           simp (disch:=omega) [-getElem?_pos,g306B0,hi',hz,e1,k0,e2,e3,e4,e5,k1,k2,k3,k4,e6,k5,k6,k7,k8,k9,h4,h3,h2,h2b,h4b,tn,tsh,tl,g3,tn2,au,aJ,hA.de,hA.flat,hA.g_,hA.len,hA.leaf,tA,ec,bN]
           conv=>lhs;rw [g306L0e]
           conv=>rhs;rw [g306L0e]
           simp [h4,h2,h2b,h4b,tn2,bN]
         · simp at hc
           subst hc
           simp [br] at k7 k8 k9
           conv=>lhs;rw [g306L0e]
           simp (disch:=omega) [-getElem?_pos,g306B0,hi',hz,e1,k0,e2,e3,e4,e5,k1,k2,k3,k4,e6,k5,k6,k7,k8,k9,h4,h3,h2,h2b,h4b,tn,tsh,tl,g3,tn2,au,aJ,hA.de,hA.flat,hA.g_,hA.len,hA.leaf,tA,ec,bN,br]
           conv=>lhs;rw [g306L0e]
           conv=>rhs;rw [g306L0e]
           simp [h4,h2,h2b,h4b,tn2,bN]
       · simp at hc
         subst hc
         simp [br] at k7 k8 k9
         conv=>lhs;rw [g306L0e]
         simp (disch:=omega) [-getElem?_pos,g306B0,hi',hz,e1,k0,e2,e3,e4,e5,k1,k2,k3,k4,e6,k5,k6,k7,k8,k9,h4,h3,h2,h2b,h4b,tn,tsh,tl,g3,tn2,au,aJ,hA.de,hA.flat,hA.g_,hA.len,hA.leaf,tA,ec,bN,br]
         conv=>lhs;rw [g306L0e]
         conv=>rhs;rw [g306L0e]
         simp [h4,h2,h2b,h4b,tn2,bN]
   · simp [h3] at e4
     obtain ⟨rfl,rfl⟩:=e4
     by_cases h2:r2=0
     · simp [h4,h2,bN] at e1 e5 e6 hc tn2
       subst hc
       try simp at k9
       conv=>lhs;rw [g306L0e]
       simp (disch:=omega) [-getElem?_pos,g306B0,hi',hz,e1,k0,e2,e3,e5,k1,k2,k3,k4,e6,k5,k6,k7,k8,k9,h4,h3,h2,h4b,tn,tsh,tl,g3,tn2,au,aJ,hA.de,hA.flat,hA.g_,hA.len,hA.leaf,tA,ec,bN]
       conv=>lhs;rw [g306L0e]
       conv=>rhs;rw [g306L0e]
       simp [h4,h2,h4b,tn2,bN]
     · have h2b:(r2 == 0)=false:=by simpa using h2
       simp [h4,h2,bN] at e1 e5 e6 hc tn2
       cases b10
       · cases b11
         · simp at hc
           subst hc
           try simp at k9
           conv=>lhs;rw [g306L0e]
           simp (disch:=omega) [-getElem?_pos,g306B0,hi',hz,e1,k0,e2,e3,e5,k1,k2,k3,k4,e6,k5,k6,k7,k8,k9,h4,h3,h2,h2b,h4b,tn,tsh,tl,g3,tn2,au,aJ,hA.de,hA.flat,hA.g_,hA.len,hA.leaf,tA,ec,bN]
           conv=>lhs;rw [g306L0e]
           conv=>rhs;rw [g306L0e]
           simp [h4,h2,h2b,h4b,tn2,bN]
         · simp at hc
           subst hc
           simp [br] at k7 k8 k9
           conv=>lhs;rw [g306L0e]
           simp (disch:=omega) [-getElem?_pos,g306B0,hi',hz,e1,k0,e2,e3,e5,k1,k2,k3,k4,e6,k5,k6,k7,k8,k9,h4,h3,h2,h2b,h4b,tn,tsh,tl,g3,tn2,au,aJ,hA.de,hA.flat,hA.g_,hA.len,hA.leaf,tA,ec,bN,br]
           conv=>lhs;rw [g306L0e]
           conv=>rhs;rw [g306L0e]
           simp [h4,h2,h2b,h4b,tn2,bN]
       · simp at hc
         subst hc
         simp [br] at k7 k8 k9
         conv=>lhs;rw [g306L0e]
         simp (disch:=omega) [-getElem?_pos,g306B0,hi',hz,e1,k0,e2,e3,e5,k1,k2,k3,k4,e6,k5,k6,k7,k8,k9,h4,h3,h2,h2b,h4b,tn,tsh,tl,g3,tn2,au,aJ,hA.de,hA.flat,hA.g_,hA.len,hA.leaf,tA,ec,bN,br]
         conv=>lhs;rw [g306L0e]
         conv=>rhs;rw [g306L0e]
         simp [h4,h2,h2b,h4b,tn2,bN]
theorem Qe {L:List Int} (hL:Sm L) {ds:List Dt} (hD:rP ds) {N:Nat} (hN:N≤4):∀(n i:Nat),N-i=n→i≤N→∀(l:List En) (k:Nat) (bs:List Bd) (j:Nat),Ctx (900-n) l→bs.length=i→(∀b∈bs,oB 100 b)→j≤L.length→∃(l':List En) (k':Nat) (bs':List Bd) (j':Nat),bs'.length=N∧(∀b∈bs',oB 100 b)∧j'≤L.length ∧
   cl AP g306L0 ⟨[(4,.az 4 0),(5,.aX 0 0),(6,.az 6 0),(7,.pv (.aD (l.map En.pv))),(8,.pv (vI N)),(9,.pv (vI i))],[(4,[.own [] 0,.own [] 1]),(6,[.pv (.aD (ds.map Dt.pv)),.bq (1+k) 20 bs.length true])],pZ L k bs j,[0,0]⟩ =
     some (.exit 0,⟨[(4,.az 4 0),(5,.aX 0 0),(6,.az 6 0),(7,.pv (.aD (l'.map En.pv))),(8,.pv (vI N)),(9,.pv (vI N)),(26,.pv (.bool false))],[(4,[.own [] 0,.own [] 1]),(6,[.pv (.aD (ds.map Dt.pv)),.bq (1+k') 20 bs'.length true])],pZ L k' bs' j',[0,0]⟩)
 | 0,i,hn,hi,l,k,bs,j,hl,hb,ho,hj=>by
   have:i=N:=by omega
   subst this
   refine ⟨l,k,bs,j,hb,ho,hj,?_⟩
   have tn:=((iP (L:=L) (k:=k) (bs:=bs)).quiet j).norm
   generalize pZ L k bs j=S at *
   rw [g306L0e]
   simp [g306B0,tn]
 | n+1,i,hn,hi,l,k,bs,j,hl,hb,ho,hj=>by
   obtain ⟨b,l1,j1,b1,b2,b3,e⟩:=Qc hL hD (l:=l) (N:=N) (k:=k) (hl.gB (by omega)) (by omega) hN hb hj
   have hll:=hl.len
   obtain ⟨l',k',bs',j',q1,q2,q3,e'⟩:=Qe hL hD hN n (i+1) (by omega) (by omega) l1 (k+1) (bs++[b]) j1 (b2.gB (by omega)) (by simp;omega) (by
     intro y hy;simp at hy;rcases hy with hy | rfl
     · exact ho y hy
     · exact b1) b3
   refine ⟨l',k',bs',j',q1,q2,q3,?_⟩
   rw [e]
   exact e'
end Go.Ab.Lw
namespace Go.Ab.Lw
open Ev
theorem c306 {L:List Int} (hL:Sm L) (bits:Int):∃(ds:List Dt) (bs:List Bd) (k j:Nat),rP ds∧0<bs.length∧bs.length≤4∧(∀b∈bs,oB 100 b) ∧
   (aP AP).i 306 [.pv (vI bits),.pv (.aD (L.map vI))] [] []=some ([.agg [.pv (.aD (ds.map Dt.pv)),.bq (1+k) 20 bs.length true]],pZ L k bs j,[]):=by
 obtain ⟨ds,k1,d1,d2⟩:=c32 bits
 have hD:rP ds:=⟨d1,d2⟩
 obtain ⟨r,j0,e1,r0,r1,hj0⟩:=mz (CD (L:=L)) hL (i:=0) (by omega) (n:=4) (by omega) (by omega)
 obtain ⟨r,rfl,hr⟩:=jS (n:=4) r0 (by simpa using r1)
 obtain ⟨b,l1,j1,b1,b2,b3,e2⟩:=Qd hL hD (N:=1+r) (by omega) (by omega) hj0
 obtain ⟨l',k',bs',j',q1,q2,q3,e3⟩:=Qe hL hD (N:=1+r) (by omega) _ 1 rfl (by omega) l1 0 [b] j1 (b2.gB (by omega)) rfl (by simpa using b1) b3
 refine ⟨ds,bs',k',j',hD,by omega,by omega,q2,?_⟩
 have e4:∀y,cl AP g306L0 ⟨[(4,.az 4 0),(5,.aX 0 0),(6,.az 6 0),(7,.own [] 0),(8,.pv (vI (1+r:Nat))),(9,.pv (vI 0))],[(4,[.own [] 1,.own [] 2]),(6,[.pv (.aD (ds.map Dt.pv)),.own [] 3])],tp L j0,[0,0,0,0]⟩=y↔_=y:=fun y=>by rw [e2]
 have e5:=e2.trans e3
 have tn:=((iP (L:=L) (k:=k') (bs:=bs')).quiet j').norm
 have tsh:=((iP (L:=L) (k:=k') (bs:=bs')).quiet j').shift
 generalize pZ L k' bs' j'=S at *
 clear e2 e3 e4
 rw [g306L0e] at e5
 have hw:(1:Int)+r=((1+r:Nat):Int):=by omega
 simp at k1 e1 e5
 rw [aK (af:=g306) rfl (by simp [g306])]
 simp (disch:=omega) [g306,k1,e1,au,g306L0e,e5,tn,tsh]
end Go.Ab.Lw
namespace Go.Ab.Lw
open Ev
theorem N5 {e:Ex} (h:xU e) {c:List Ex} (hl:c.length=e.ch.length) (hc:∀y∈c,xU y):xU (e.xQ c):=by
 rw [Ex.kO] at hl
 have hch:=Jj hl
 have hk:(e.xQ c).kids.length=e.kids.length:=by rw [Ex.xQ,if_pos hl];simp;omega
 have ha:(e.xQ c).bt.map (fun a=>(a.gq,a.vars))=e.bt.map (fun a=>(a.gq,a.vars)):=by rw [Ex.xQ,if_pos hl];simp only [Cp]
 have ha2:(e.xQ c).bt.length=e.bt.length:=by have:=congrArg List.length ha;simpa using this
 have hkd:(e.xQ c).kind=e.kind:=by rw [Ex.xQ,if_pos hl]
 have hty:(e.xQ c).ty=e.ty:=by rw [Ex.xQ,if_pos hl]
 refine ⟨.mk (by have:=h.ok.k;omega) (by have:=h.ok.a;omega) ?_ (by rw [hty];exact h.ok.t) (by rw [hch];exact fun y hy=>(hc y hy).ok),.mk (by rw [hkd,hk];exact h.one.h) (by rw [hch];exact fun y hy=>(hc y hy).one),.mk (by rw [hty];exact h.cw.h) (by rw [hch];exact fun y hy=>(hc y hy).cw)⟩
 intro a hm
 have:(a.gq,a.vars)∈e.bt.map (fun a=>(a.gq,a.vars)):=by rw [←ha];exact List.mem_map_of_mem hm
 simp only [List.mem_map] at this
 obtain ⟨b,hb,hq⟩:=this
 have:=h.ok.v b hb
 simp at hq
 rw [←hq.2];exact this
theorem Qf {e:Ex} {c:List Ex} (hl:c.length=e.ch.length) {n:Nat} (hc:∀y∈c,y.vd n):(e.xQ c).vd (n+1):=by
 rw [Ex.kO] at hl
 exact .mk (by rw [Jj hl];exact hc)
theorem Qg {sz:Nat} {l:List PV} (h1:1≤l.length) (hs:bH sz l=true):cI false sz true false false [.pv (.aD l),.pv (.int .i64 1)]=some (.pv (.aD (l.drop 1))):=by
 have h2:(1:Int)≤l.length:=by omega
 simp [cI,dS,dG,h2,hs]
theorem c359 {x:Ex} (hx:xU x) {m:Nat} (hm:x.vd m):∀(p:List Int) (e:Ex) (n:Nat),p.length<1000000→xU e→e.vd n→∃(y:Ex) (b:Bool),(aP AP).p 359 [e.pv,.aD (p.map vI),x.pv]=some [y.pv,.bool b]∧xU y∧y.vd (n+m)
 | [],e,n,hp,he,hh=>by
   refine ⟨x,true,?_,hx,kS hm (by omega)⟩
   rw [aq (af:=g359) rfl rfl (by decide)]
   simp [g359]
 | q::p,e,n,hp,he,hh=>by
   have hk:=he.ok.k
   have ha:=he.ok.a
   have hlen:=Ex.kO (e:=e)
   have hz:¬(p.length:Int)+1=0:=by omega
   simp at hp
   have no:(q<0∨e.ch.length≤q)→(aP AP).p 359 [e.pv,.aD ((q::p).map vI),x.pv]=some [e.pv,.bool false]:=by
     intro hq
     obtain ⟨k0,c1⟩:=c145i (e:=e) (A:=.pv (.aD (e.bt.map Ar.pv))) hk ha (X:=[]) (by intro cs h;simp at h) (.inl rfl)
     have cj:=c145j (e:=e) (X:=[])
     rw [c1] at cj
     clear c1
     by_cases z:e.ch=[]
     · rw [if_pos z] at cj
       have z0:e.ch.length=0:=by rw [z];rfl
       simp at cj
       rw [aq (af:=g359) rfl rfl (by decide)]
       by_cases q0:q<0
       · simp [g359,hz,cj,q0]
       · have q1:0≤q:=by omega
         simp [g359,hz,cj,q0,q1]
     · rw [if_neg z] at cj
       have hqn:=((fw k0).app (a7.one (cP (f:=Ex.cells) (l:=e.ch)))).norm
       have hqs:=((fw k0).app (a7.one (cP (f:=Ex.cells) (l:=e.ch)))).shift
       simp only [List.nil_append,List.length_nil,Nat.zero_add] at cj
       generalize nn k0++[some (bI Ex.cells e.ch)]=S0 at *
       simp at cj
       rw [aq (af:=g359) rfl rfl (by decide)]
       by_cases q0:q<0
       · simp [g359,hz,cj,q0,hqn,hqs]
       · have q1:(e.ch.length:Int)≤q:=by omega
         simp [g359,hz,cj,q0,q1,hqn,hqs]
   by_cases hq:0≤q∧q<e.ch.length
   · obtain ⟨q0,q1⟩:=hq
     obtain ⟨i,rfl⟩:∃i:Nat,q=i:=⟨q.toNat,by omega⟩
     have hi:i<e.ch.length:=by omega
     obtain ⟨c,hc⟩:=bp hi
     have hcm:=bm hc
     cases hh with
     | @mk n _ hh=>
       obtain ⟨y,b,k1,hy,hyh⟩:=c359 hx hm p c n (by omega) (he.c hcm) (hh c hcm)
       have z:¬e.ch=[]:=by intro z;rw [z] at hi;simp at hi
       obtain ⟨k0,c1⟩:=c145i (e:=e) (A:=.pv (.aD (e.bt.map Ar.pv))) hk ha (X:=[]) (by intro cs h;simp at h) (.inl rfl)
       have cj:=c145j (e:=e) (X:=[])
       rw [c1,if_neg z] at cj
       clear c1
       have hqn:=((fw k0).app (a7.one (cP (f:=Ex.cells) (l:=e.ch)))).norm
       have hqs:=((fw k0).app (a7.one (cP (f:=Ex.cells) (l:=e.ch)))).shift
       have hqn1:=((fw k0).app (a7.one (cP (f:=Ex.cells) (l:=e.ch.set i y)))).norm
       simp only [List.nil_append,List.length_nil,Nat.zero_add] at cj
       have hget:=pN eh hc (o:=0) (k:=11) (by omega)
       have ht:(((c.cells.drop 0).take 11).map AV.pv)=c.cl:=by
         rw [List.drop_zero,List.take_of_length_le (by rw [eh.len];omega),Ex.ta]
       rw [ht,Nat.add_zero] at hget
       have hset:=pO eh hc (y:=y) (o:=0) (vs:=y.cells) (by rw [eh.len];omega) (by
         have h1:=eh.len c
         have h2:=eh.len y
         simp [h1,h2])
       rw [Ex.ta,Nat.add_zero] at hset
       have hB:cQ (bI Ex.cells e.ch)=false:=dh cP
       have hlen2:(bI Ex.cells e.ch).length=e.ch.length*11:=d3 eh
       have hle:i*11+11≤e.ch.length*11:=by omega
       have hs1:(nn k0++[some (bI Ex.cells e.ch)])[k0]?=some (some (bI Ex.cells e.ch)):=by simp
       have hs2:(nn k0++[some (bI Ex.cells e.ch)]).set k0 (some (bI Ex.cells (e.ch.set i y)))=nn k0++[some (bI Ex.cells (e.ch.set i y))]:=by simp
       have hs3:(nn k0++[some (bI Ex.cells (e.ch.set i y))])[k0]?=some (some (bI Ex.cells (e.ch.set i y))):=by simp
       have hlst:=Jc (l:=e.ch.set i y)
       have hlen3:(bI Ex.cells (e.ch.set i y)).length=e.ch.length*11:=by rw [d3 eh,List.length_set]
       rw [List.length_set] at hlst
       have c2:=c374 (e:=e) hk ha (c:=e.ch.set i y)
       have hsl:=Qg (sz:=1) (l:=(((i:Int)::p).map vI)) (by simp) (jT.head _)
       cases b with
       | false=>
         refine ⟨e,false,?_,he,kS (.mk hh) (by omega)⟩
         generalize nn k0++[some (bI Ex.cells (e.ch.set i y))]=S1 at *
         generalize nn k0++[some (bI Ex.cells e.ch)]=S0 at *
         generalize bI Ex.cells (e.ch.set i y)=T1 at *
         generalize bI Ex.cells e.ch=T at *
         simp at cj k1 hsl
         simp [Ex.cl] at hget
         rw [aq (af:=g359) rfl rfl (by decide)]
         simp (disch:=omega) [-getElem?_pos,g359,hz,cj,q1,hi,hqn,hqs,hsl,hs1,hB,hlen2,hle,hget,k1]
       | true=>
         have hcl:(e.ch.set i y).length=e.ch.length:=by simp
         have hce:∀w∈e.ch.set i y,xU w:=by
           intro w hw
           rcases List.mem_or_eq_of_mem_set hw with hw | rfl
           · exact he.c hw
           · exact hy
         have hch:∀w∈e.ch.set i y,w.vd (n+m):=by
           intro w hw
           rcases List.mem_or_eq_of_mem_set hw with hw | rfl
           · exact kS (hh w hw) (by omega)
           · exact hyh
         refine ⟨e.xQ (e.ch.set i y),true,?_,N5 he hcl hce,by rw [show n+1+m=n+m+1 by omega];exact Qf hcl hch⟩
         generalize e.xQ (e.ch.set i y)=Y at *
         generalize nn k0++[some (bI Ex.cells (e.ch.set i y))]=S1 at *
         generalize nn k0++[some (bI Ex.cells e.ch)]=S0 at *
         generalize bI Ex.cells (e.ch.set i y)=T1 at *
         generalize bI Ex.cells e.ch=T at *
         simp at cj k1 hsl c2 hlst
         simp [Ex.cl] at hget hset
         rw [aq (af:=g359) rfl rfl (by decide)]
         simp (disch:=omega) [-getElem?_pos,g359,hz,cj,q1,hi,hqn,hqs,hqn1,hsl,hs1,hs2,hs3,hB,hlen2,hlen3,hle,hget,k1,hset,hlst,c2]
   · refine ⟨e,false,no (by omega),he,kS hh (by omega)⟩
end Go.Ab.Lw
namespace Go.Ab.Lw
open Ev
theorem fC.Rq {ds:List Dt} (hD:rP ds) {n:Nat} {e:Ex} (h:fC ds n e):u_ (n+1) e:=by
 have hD8:∀d∈ds,D8 d:=fun d hd=>Js d (hD.all d hd)
 induction h with
 | var _=>exact (d7 (by decide)).up (by omega)
 | int _ _=>exact (d7 (by decide)).up (by omega)
 | gq _ _=>exact (d7 (by decide)).up (by omega)
 | gone=>exact (d7 (by decide)).up (by omega)
 | hole=>exact (d7 (by decide)).up (by omega)
 | lam _ _ ih=>exact ew (by decide) (by simp) h_ ia (by simpa using ih)
 | app _ _ iha ihb=>exact ew (by decide) (by simp) h_ ia (by simpa using ⟨iha,ihb⟩)
 | PL hk _ _ _ iha ihb=>exact ew (by rcases hk with rfl | rfl<;>decide) (by simp) h_ ia (by simpa using ⟨iha,ihb⟩)
 | Q' _ ht ih=>
   have g:=jZ (fun d hd=>(hD8 d hd).1) (by simp) ht
   exact ew (by decide) (by simp) g.ok g.kn.cw (by simpa using ih)
 | held _ ih=>exact ew (by decide) (by simp) h_ ia (by simpa using ih)
 | up _ ih=>exact ih.up (by omega)
 | @Mo n d a as hd ha hl hb hv hc iha ihb=>
   obtain ⟨_,_,h8a,h8b⟩:=hD8 _ hd
   refine yi iha (by omega) fun x hx=>⟨?_,ihb x hx⟩
   obtain ⟨i,hi,rfl⟩:=List.getElem_of_mem hx
   obtain ⟨c,hcc⟩:=bp (show i<_ from hl ▸ hi)
   have:=(hc i c _ hcc (List.getElem?_eq_getElem hi)).2
   have:=h8b c (bm hcc)
   omega
theorem QX {L:List Int} {tm:Nat} {TP:Int→Sh} (hT:Tape L tm TP) {i:Nat}:(aP AP).i 162 [.aX tm 0] (TP i) []=some ([.pv (.bool (decide (L.length≤i)))],TP i,[]):=by
 have tn:=hT.norm
 have tsh:=hT.shift
 have tl:=hT.take
 have tg:=hT.get
 rw [aK (af:=g162) rfl (by simp [g162])]
 simp [g162,tn,tsh,tl,tg]
def JL (L:List Int) (ds:List Dt) (tm b N i:Nat) (path:List Int) (e:Ex) (n:Int) (S:Sh):St:=⟨[(2,.az 2 0),(4,.az 4 0),(5,.aX tm 0),(6,.pv (vI i)),(7,.own (path.map vI) 0),(8,.az 8 0),(9,.pv (vI n))],[(2,[.pv (.aD (ds.map Dt.pv)),.bq b 20 N true]),(4,[.own [] 1,.own [] 2]),(8,e.cl)],S,[path.length,0,0]⟩
def JM (L:List Int) (ds:List Dt) (tm b N i:Nat) (path:List Int) (e:Ex) (n:Int) (S:Sh) (l:Bool):Option (a6×St):=some (.exit 0,⟨[(2,.az 2 0),(4,.az 4 0),(5,.aX tm 0),(6,.pv (vI i)),(7,.own (path.map vI) 0),(8,.az 8 0),(9,.pv (vI n))]++(if l then [(39,.pv (.bool false))] else [(10,.pv (.aD [])),(46,.pv (.bool true))]),[(2,[.pv (.aD (ds.map Dt.pv)),.bq b 20 N true]),(4,[.own [] 1,.own [] 2]),(8,e.cl)],S,[path.length,0,0]⟩)
theorem Qh {L:List Int} {tm:Nat} {TP:Int→Sh} (hT:Tape L tm TP) (hL:Sm L) {ds:List Dt} {b N i:Nat}:∀(n:Nat),n≤5→∀(path:List Int) (e:Ex) (I:Nat),path.length+n≤5→e.Ok→I≤L.length→∃(path':List Int) (e':Ex) (n':Int) (J:Nat) (l:Bool),path'.length≤5∧J≤L.length ∧
   cl AP g335L0 (JL L ds tm b N i path e n (TP I))=JM L ds tm b N i path' e' n' (TP J) l
 | 0,hn,path,e,I,hp,he,hI=>by
   have tn:=hT.norm
   refine ⟨path,e,0,I,true,by omega,hI,?_⟩
   rw [g335L0e]
   simp [g335B0,JL,JM,tn,Ex.cl]
 | n+1,hn,path,e,I,hp,he,hI=>by
   have tn:=hT.norm
   have tsh:=hT.shift
   have tl:=hT.take
   have k1:=c145 he
   have hk:=he.k
   have ha:=he.a
   have hlen:=Ex.kO (e:=e)
   have hn0:(0:Int)<(n:Int)+1:=by omega
   have hn1:(n:Int)+1-1=n:=by omega
   by_cases z:e.ch=[]
   · refine ⟨path,e,((n+1:Nat):Int),I,false,by omega,hI,?_⟩
     rw [z] at k1
     simp at k1
     rw [g335L0e]
     simp [g335B0,JL,JM,tn,Ex.cl,hn0,k1]
   · have hpos:0<e.ch.length:=List.length_pos_iff.2 z
     obtain ⟨r,j,e1,r0,r1,hj⟩:=mz hT hL hI (n:=e.ch.length) (by omega) (by omega)
     obtain ⟨r,rfl,hr⟩:=jS r0 r1
     obtain ⟨x,hx⟩:=bp hr
     obtain ⟨path',e',n',J,l,q1,q2,ih⟩:=Qh hT hL (ds:=ds) (b:=b) (N:=N) (i:=i) n (by omega) (path++[(r:Int)]) x j (by simp;omega) (he.c x (bm hx)) hj
     refine ⟨path',e',n',J,l,q1,q2,?_⟩
     have hb:(path.length+1)*8≤140737488355328:=by omega
     have hh:bH 1 (path.map vI)=true:=jT.head path
     rw [←ih]
     simp at k1 e1
     conv=>lhs;rw [g335L0e]
     simp (disch:=omega) [-getElem?_pos,g335B0,JL,tn,tsh,tl,Ex.cl,hn0,hn1,k1,z,e1,hx,hb,hh,au]
end Go.Ab.Lw
namespace Go.Ab.Lw
open Ev
theorem N6 {L:List Int} {j:Int}:a7 [some [AV.pv (.aD (L.map vI)),AV.pv (vI j)]]:=a7.one (by intro v hv;simp at hv;rcases hv with rfl | rfl<;>exact ⟨_,rfl⟩)
theorem JN {L:List Int} {S:Sh} (hS:a7 S):Tape L S.length (fun j=>S++[some [.pv (.aD (L.map vI)),.pv (vI j)]]) where
 get:=fun i=>by simp
 set:=fun i j=>by simp
 quiet:=fun i=>hS.app N6
theorem BP {S:Sh} (hS:a7 S) {b:Nat}:a7 (S.set b none):=by
 intro cs hcs
 rcases List.mem_or_eq_of_mem_set hcs with h | h
 · exact hS cs h
 · cases h
theorem Ga {S:Sh} (hS:a7 S) {b:Nat} {cs:List AV} (h:∀v∈cs,∃p,v=AV.pv p):a7 (S.set b (some cs)):=by
 intro c hc
 rcases List.mem_or_eq_of_mem_set hc with q | q
 · exact hS c q
 · cases q;exact h
def Bd.put (b:Bd) (e:Ex):Bd:={ b with body:=e }
theorem va (b:Bd) (e:Ex):(b.put e).cells=b.cells.take 9++e.cells++b.cells.drop (9+e.cells.length):=by
 have h1:=eh.len e
 have h2:=eh.len b.body
 simp [Bd.cells,Bd.put,h1,h2]
theorem oB.up {n m:Nat} {b:Bd} (h:oB n b) (hm:n≤m):oB m b:=⟨h.sc,kS h.h hm,h.so,h.sw,h.sn⟩
structure N7 (Q:Nat) (ds:List Dt) (bs:List Bd) (b:Nat) (S:Sh):Prop where
 d:rP ds
 pos:0<bs.length
 len:bs.length≤4
 ok:∀x∈bs,oB Q x
 quiet:a7 S
 FQ:S[b]?=some (some (bI Bd.cells bs))
theorem c335 {M:List Int} (hM:Sm M) {ds:List Dt} {bs:List Bd} {b:Nat} {S:Sh} (H:N7 100 ds bs b S):∃(bs':List Bd) (b':Nat) (S':Sh),bs'.length=bs.length∧N7 200 ds bs' b' S' ∧
   (aP AP).i 335 [.agg [.pv (.aD (ds.map Dt.pv)),.bq b 20 bs.length true],.pv (.aD (M.map vI))] S []=some ([.agg [.pv (.aD (ds.map Dt.pv)),.bq b' 20 bs'.length true]],S',[]):=by
 obtain ⟨hD,hpos,h4,ho,hS,hb⟩:=H
 have hbl:b<S.length:=(List.getElem?_eq_some_iff.1 hb).1
 have hT:=JN (L:=M) hS
 have hT0:∀j:Int,(S++[some [.pv (.aD (M.map vI)),.pv (vI j)]])=(fun j=>S++[some [.pv (.aD (M.map vI)),.pv (vI j)]]) j:=fun _=>rfl
 have hget:∀j:Int,((fun j=>S++[some [.pv (.aD (M.map vI)),.pv (vI j)]]) j:Sh)[b]?=some (some (bI Bd.cells bs)):=fun j=>by simp [List.getElem?_append_left hbl,hb]
 have hkill:∀j:Int,((fun j=>S++[some [.pv (.aD (M.map vI)),.pv (vI j)]]) j:Sh).set b none=S.set b none++[some [.pv (.aD (M.map vI)),.pv (vI j)]]:=fun j=>by simp [List.set_append_left,hbl]
 have hlen:∀j:Int,((fun j=>S++[some [.pv (.aD (M.map vI)),.pv (vI j)]]) j:Sh).length=S.length+1:=fun j=>by simp
 generalize hTP:(fun j:Int=>S++[some [AV.pv (.aD (M.map vI)),AV.pv (vI j)]])=TP at *
 have tn:=hT.norm
 have tsh:=hT.shift
 have tl:=hT.take
 have k0:=QX hT (i:=0)
 have nS:=hS.norm
 have sS:=hS.shift
 have hz:bs≠[]:=List.length_pos_iff.1 hpos
 have r1:(bI Bd.cells bs).length=bs.length*20:=d3 kT
 have hB:cQ (bI Bd.cells bs)=false:=dh cP
 have h0:=hT0 0
 by_cases hE:M=[]
 · refine ⟨bs,b,S,rfl,⟨hD,hpos,h4,fun x hx=>(ho x hx).up (by omega),hS,hb⟩,?_⟩
   have ht:List.take S.length (TP 0)=S:=by rw [←h0];simp
   subst hE
   simp at k0 h0
   rw [aK (af:=g335) rfl (by simp [g335])]
   simp [g335,hz,k0,tn,tsh,nS,sS,h0,hbl,ht]
 · have hMp:0<M.length:=List.length_pos_iff.2 hE
   have hM0:¬M.length≤0:=by omega
   rw [decide_eq_false hM0] at k0
   obtain ⟨q,j1,e1,q0,q1,hj1⟩:=mz hT hM (i:=0) (by omega) (n:=bs.length) (by omega) (by omega)
   obtain ⟨i,rfl,hi⟩:=jS q0 q1
   obtain ⟨x,hx⟩:=bp hi
   have hxo:=ho x (bm hx)
   obtain ⟨n,j2,e2,n0,n1,hj2⟩:=mz hT hM hj1 (n:=5) (by omega) (by omega)
   obtain ⟨n,rfl,hn⟩:=jS (n:=5) n0 (by simpa using n1)
   obtain ⟨path,ex,n',J,l,hp,hJ,e3⟩:=Qh hT hM (ds:=ds) (b:=b) (N:=bs.length) (i:=i) n (by omega) [] x.body j2 (by simp;omega) hxo.sc.ok hj2
   have hS2:=BP hS (b:=b)
   have hT2:=CA (L:=M) (A:=S.set b none) (B:=[some (bI Bd.cells bs)]) hS2 (a7.one cP)
   rw [List.length_set] at hT2
   have hk2:∀j:Int,(TP j).set b none++[some (bI Bd.cells bs)]=(fun i:Int=>S.set b none++[some [.pv (.aD (M.map vI)),.pv (vI i)]]++[some (bI Bd.cells bs)]) j:=fun j=>by rw [hkill]
   have hk3:∀j:Int,S.set b none++[some [.pv (.aD (M.map vI)),.pv (vI j)],some (bI Bd.cells bs)]=(fun i:Int=>S.set b none++[some [.pv (.aD (M.map vI)),.pv (vI i)]]++[some (bI Bd.cells bs)]) j:=fun j=>by simp
   have hg2:∀j:Int,((fun i:Int=>S.set b none++[some [.pv (.aD (M.map vI)),.pv (vI i)]]++[some (bI Bd.cells bs)]) j:Sh)[S.length+1]?=some (some (bI Bd.cells bs)):=fun j=>by simp [List.getElem?_append_right]
   have hs2:∀(j:Int) (c:List Bd),∃S',((fun i:Int=>S.set b none++[some [.pv (.aD (M.map vI)),.pv (vI i)]]++[some (bI Bd.cells bs)]) j:Sh).set (S.length+1) (some (bI Bd.cells c))=S'∧a7 S'∧S'[S.length+1]?=some (some (bI Bd.cells c)):=fun j c=>⟨_,rfl,Ga (hT2.quiet j) cP,by simp [List.getElem?_append_right,List.set_append_right]⟩
   generalize (fun i:Int=>S.set b none++[some [AV.pv (.aD (M.map vI)),AV.pv (vI i)]]++[some (bI Bd.cells bs)])=TQ at *
   have un:=hT2.norm
   have ush:=hT2.shift
   have ul:=hT2.take
   obtain ⟨y,f1,f2,f3,j4,e4,hy,hj4⟩:=P8 hT2 hM (ds:=ds) (by have:=hD.len;omega) (fun d hd=>Js d (hD.all d hd)) 2 (by omega) J hJ
   have hyE:=hy.Rq hD
   have hA:=dY f1 f2 f3 y
   generalize dZ f1 f2 f3 y=A at e4 hA
   have ac:=Ex.bA y
   obtain ⟨w,ok,k5,w1,w2⟩:=c359 hyE.sc hyE.h path x.body 100 (by omega) hxo.sc hxo.h
   obtain ⟨S',s1,s2,s3⟩:=hs2 j4 (bs.set i (x.put w))
   refine ⟨bs.set i (x.put w),S.length+1,S',by simp,⟨hD,by simpa using hpos,by simpa using h4,?_,s2,s3⟩,?_⟩
   · intro z hz
     rcases List.mem_or_eq_of_mem_set hz with hz | rfl
     · exact (ho z hz).up (by omega)
     · exact ⟨w1,kS w2 (by omega),hxo.so,hxo.sw,hxo.sn⟩
   · have hsub:=pN kT hx (o:=9) (k:=11) (by omega)
     have m8:(((x.cells.drop 9).take 11).map AV.pv)=x.body.cl:=by
       have h2:=eh.len x.body
       have h3:(x.cells.drop 9).take 11=x.body.cells:=by
         simp only [Bd.cells,List.cons_append,List.nil_append,List.drop_succ_cons,List.drop_zero]
         exact List.take_of_length_le (by omega)
       rw [h3,Ex.ta]
     rw [m8] at hsub
     have hset:=pO kT hx (y:=x.put w) (o:=9) (vs:=w.cells) (by rw [eh.len];omega) (va x w)
     rw [Ex.ta] at hset
     have hle:i*20+9+11≤bs.length*20:=by omega
     have hlst:=BO (l:=bs)
     have hmap:=N4 (l:=bs)
     have hbb:bs.length*256≤140737488355328:=by omega
     have hib:(i:Int)<bs.length:=by omega
     have hg2':=hg2 j4
     have hnl:¬S.length+1<S.length:=by omega
     have hf:∀S:Sh,de S (.az 2 0)=none:=fun _=>rfl
     have hxpv:(bs.map Bd.pv)[i]?=some x.pv:=by simp [hx]
     have hn5:(n:Int)<5:=by omega
     have nS':=s2.norm
     have sS':=s2.shift
     clear hS2 hT2 hs2 hT hTP
     generalize bI Bd.cells (bs.set i (x.put w))=F2 at *
     generalize bI Bd.cells bs=F at *
     rw [g335L0e] at e3
     simp [JL,Ex.cl,tn] at e3
     simp at k0 e1 e2 e4 k5
     simp [Ex.cl] at hsub hset
     rw [aK (af:=g335) rfl (by simp [g335])]
     cases l with
     | true=>
       simp [JM,Ex.cl] at e3
       simp (disch:=omega) [-getElem?_pos,g335,hz,k0,tn,tsh,tl,un,ush,ul,nS,sS,h0,hbl,e1,hget,hB,r1,hle,hsub,hx,hi,e2,g335L0e,e3,hlst,hk3,hkill,hmap,hbb,e4,hlen,hA.de,hA.flat,hA.g_,hA.len,hA.leaf,ac,k5,hg2',hset,s1,hf,hnl,nS',sS']
     | false=>
       simp [JM,Ex.cl] at e3
       simp (disch:=omega) [-getElem?_pos,g335,hz,k0,tn,tsh,tl,un,ush,ul,nS,sS,h0,hbl,e1,hget,hB,r1,hle,hsub,hx,hi,e2,g335L0e,e3,hlst,hk3,hkill,hmap,hbb,e4,hlen,hA.de,hA.flat,hA.g_,hA.len,hA.leaf,ac,k5,hg2',hset,s1,hf,hnl,nS',sS']
end Go.Ab.Lw
namespace Go.Ab.Lw
open Ev
theorem Qi {sz:Nat} {l:List PV} {k:Nat} (h:k≤l.length) (hs:bH sz l=true):cI false sz true false false [.pv (.aD l),.pv (.int .i64 (k:Int))]=some (.pv (.aD (l.drop k))):=by
 have h2:(k:Int)≤l.length:=by omega
 simp [cI,dS,dG,h2,hs]
theorem c310 {L:List Int} (hL:L.length≤100000) (bits way:Int):∃(ds:List Dt) (bs:List Bd),rP ds∧0<bs.length∧bs.length≤4∧(∀x∈bs,oB 200 x) ∧
   (aP AP).p 310 [vI bits,.aD (L.map vI),vI way]=some [.agg [.aD (ds.map Dt.pv),.aD (bs.map Bd.pv)]]:=by
 obtain ⟨ds,bs,k,j,hD,h0,h4,ho,k1⟩:=c306 (by unfold Sm;omega:Sm L) bits
 have H:N7 100 ds bs (1+k) (pZ L k bs j):=⟨hD,h0,h4,ho,(iP (L:=L)).quiet j,CB⟩
 generalize pZ L k bs j=S at *
 have tn:=H.quiet.norm
 have tsh:=H.quiet.shift
 obtain ⟨r,k2,r0,r1⟩:=c26 (n:=way) (m:=3) (by omega) (by omega)
 by_cases hr:r=1
 · obtain ⟨bs',b',S',hl,H',k3⟩:=c335 (M:=L.drop (min L.length 3)) (by unfold Sm;simp;omega) H
   refine ⟨ds,bs',H'.d,H'.pos,H'.len,H'.ok,?_⟩
   have tn':=H'.quiet.norm
   have tsh':=H'.quiet.shift
   have g:=H'.FQ
   have rl:(bI Bd.cells bs').length=bs'.length*20:=d3 kT
   have hlst:=BO (l:=bs')
   have hmn:(if (3:Int)<L.length then (3:Int) else L.length)=((min L.length 3:Nat):Int):=by split<;>omega
   have hsl:=Qi (sz:=1) (l:=L.map vI) (k:=min L.length 3) (by simp;omega) (jT.head L)
   generalize min L.length 3=q at *
   generalize bI Bd.cells bs'=F at *
   subst hr
   simp at k1 k2 k3 hsl hlst
   rw [aq (af:=g310) rfl rfl (by decide)]
   simp [td,Cq,Cr,xW,g310,k1,k2,hmn,hsl,k3,tn,tsh,tn',tsh',aJ,g,rl,hlst]
 · refine ⟨ds,bs,hD,h0,h4,fun x hx=>(ho x hx).up (by omega),?_⟩
   have g:=H.FQ
   have rl:(bI Bd.cells bs).length=bs.length*20:=d3 kT
   have hlst:=BO (l:=bs)
   generalize bI Bd.cells bs=F at *
   simp at k1 k2 hlst
   rw [aq (af:=g310) rfl rfl (by decide)]
   simp [g310,k1,k2,hr,tn,tsh,aJ,g,rl,hlst]
end Go.Ab.Lw
namespace Go.Ab.Lw
open Ev
def sq (ds:List Dt) (b:Bd):Int:=if b.sg=true then b.sig.formed ds (cC b.sig) else 0
def jw (b:Bd) (names:List bS):List bS:=if b.rc=true then names++[b.name] else names
noncomputable def kV (ds:List Dt):List Bd→List bS→vb
 | [],_=>(0,0)
 | b::r,names=>if b.name∈names then (6,b.pos) else if sq ds b≠0 then (sq ds b,b.pos) else if (b.body.bI ds (jw b names)).1≠0 then b.body.bI ds (jw b names) else kV ds r (names++[b.name])
noncomputable def nC (ds:List Dt) (bs:List Bd):vb:=if (check ds).1≠0 then check ds else kV ds bs []
def nV (z:Bool) (names:List bS):AV:=if z then .own [] 0 else .pv (.aD (names.map .str))
def nT (z:Bool):aL:=if z then [0] else []
def pC (ds:List Dt) (bs:List Bd):List AV:=[.pv (.aD (ds.map Dt.pv)),.pv (.aD (bs.map Bd.pv))]
def N8 (ds:List Dt) (bs:List Bd) (F:vb) (r:Option (a6×St)):Prop:=
 (F=(0,0)∧∃(V:AV) (T:aL),r=some (.exit 0,⟨[(1,.az 1 0),(2,.az 2 0),(4,V),(18,.pv (.aD (bs.map Bd.pv))),(19,.pv (vI bs.length)),(20,.pv (vI bs.length)),(21,.pv (.bool false))],[(1,pC ds bs),(2,[.pv (vI 0),.pv (vI 0)])],[],T⟩)) ∨
 (F.1≠0∧∃(T:aL),r=some (.ret,⟨[(2,.az 2 0)],[(2,[.pv (vI F.1),.pv (vI F.2)])],[],T⟩))
theorem Qj {ds:List Dt} (hS:Sm ds) (hc:∀d∈ds,Sm d.cons) {Q:Nat} (hQ:Q≤1000) {bs:List Bd} (hl:bs.length≤1000) (ho:∀b∈bs,oB Q b):∀(n i:Nat),bs.length-i=n→i≤bs.length→∀(z:Bool) (names:List bS),(z=true→names=[])→names.length≤i →
   N8 ds bs (kV ds (bs.drop i) names) (cl AP g403L0 ⟨[(1,.az 1 0),(2,.az 2 0),(4,nV z names),(18,.pv (.aD (bs.map Bd.pv))),(19,.pv (vI bs.length)),(20,.pv (vI i))],[(1,pC ds bs),(2,[.pv (vI 0),.pv (vI 0)])],[],nT z⟩)
 | 0,i,hn,hi,z,names,hz,hnl=>by
   have:i=bs.length:=by omega
   subst this
   left
   refine ⟨by simp [kV],nV z names,nT z,?_⟩
   rw [g403L0e]
   cases z<;>simp [g403B0,pC,nV,nT]
 | n+1,i,hn,hi,z,names,hz,hnl=>by
   have hi:i<bs.length:=by omega
   obtain ⟨b,hb⟩:=bp hi
   have B:=ho b (bm hb)
   obtain ⟨s1,_⟩:=rN (t:=b.sig)
   have hsn:=B.sn
   have hnn:(cC b.sig).length≤90:=by
     have:=oA (l:=b.sig.d0) (out:=[])
     simp at this
     unfold cC;omega
   have k1:=c214 (s:=names) (by unfold Sm;omega) (y:=b.name)
   have k2:=c195 (S:=b.sig.d0) (by omega) B.so B.sw (fun y hy=>hy)
   have k3:=c185 hS (l:=cC b.sig) (by unfold Sm;omega) B.so
   have h1n:[b.name].length=1:=rfl
   have k4:=c409 (a:=names) (b:=[b.name]) (by omega)
   have hsl:(jw b names).length≤1001:=by unfold jw;split<;>(try simp)<;>omega
   have k5:=c405 hS hc Q B.sc B.h (jw b names) (by omega)
   have hz0:∀{f:vb},f=b.body.bI ds (jw b names)→f.1=0→f=(0,0):=fun h h0=>by rw [h] at h0 ⊢;exact rE h0
   rw [bL hb,kV]
   by_cases q1:b.name∈names
   · rw [if_pos q1]
     rw [decide_eq_true q1] at k1
     right
     refine ⟨by simp,?_⟩
     cases z with
     | true=>rw [hz rfl] at q1;simp at q1
     | false=>
       refine ⟨nT false,?_⟩
       rw [g403L0e]
       simp (disch:=omega) [-getElem?_pos,g403B0,pC,nV,nT,hb,hi,k1]
   · rw [if_neg q1]
     rw [decide_eq_false q1] at k1
     by_cases q2:sq ds b=0
     · have q2':¬sq ds b≠0:=fun h=>h q2
       rw [if_neg q2']
       by_cases q3:(b.body.bI ds (jw b names)).1=0
       · have q3':¬(b.body.bI ds (jw b names)).1≠0:=fun h=>h q3
         rw [if_neg q3']
         have ih:=Qj hS hc hQ hl ho n (i+1) (by omega) (by omega) false (names++[b.name]) (by simp) (by simp;omega)
         have e1:cl AP g403L0 ⟨[(1,.az 1 0),(2,.az 2 0),(4,nV z names),(18,.pv (.aD (bs.map Bd.pv))),(19,.pv (vI bs.length)),(20,.pv (vI i))],[(1,pC ds bs),(2,[.pv (vI 0),.pv (vI 0)])],[],nT z⟩=cl AP g403L0 ⟨[(1,.az 1 0),(2,.az 2 0),(4,nV false (names++[b.name])),(18,.pv (.aD (bs.map Bd.pv))),(19,.pv (vI bs.length)),(20,.pv (vI (i+1:Nat)))],[(1,pC ds bs),(2,[.pv (vI 0),.pv (vI 0)])],[],nT false⟩:=by
           have f0:=hz0 rfl q3
           rw [f0] at k5
           unfold jw at k5
           unfold sq at q2
           conv=>lhs;rw [g403L0e]
           simp at k1 k2 k3 k4
           cases z with
           | true=>
             have:=hz rfl
             subst this
             simp at k1 k4
             cases hg:b.sg<;>cases hr:b.rc<;>simp [hg] at q2<;>simp [hr] at k5<;>simp (disch:=omega) [-getElem?_pos,g403B0,pC,nV,nT,hb,hi,k1,k2,k3,k4,k5,hg,hr,q2,au]<;>(rw [g403L0e];conv=>rhs;rw [g403L0e])<;>simp
           | false=>
             cases hg:b.sg<;>cases hr:b.rc<;>simp [hg] at q2<;>simp [hr] at k5<;>simp (disch:=omega) [-getElem?_pos,g403B0,pC,nV,nT,hb,hi,k1,k2,k3,k4,k5,hg,hr,q2,au]
         rw [e1]
         exact ih
       · rw [if_pos q3]
         right
         refine ⟨q3,?_⟩
         generalize hF:b.body.bI ds (jw b names)=F at *
         unfold jw at k5
         unfold sq at q2
         simp at k1 k2 k3 k4
         cases z with
         | true=>
           have:=hz rfl
           subst this
           simp at k1 k4
           cases hg:b.sg<;>cases hr:b.rc<;>simp [hg] at q2<;>simp [hr] at k5<;>(refine ⟨nT true,?_⟩;rw [g403L0e];simp (disch:=omega) [-getElem?_pos,g403B0,pC,nV,nT,hb,hi,k1,k2,k3,k4,k5,hg,hr,q2,q3,au])
         | false=>
           cases hg:b.sg<;>cases hr:b.rc<;>simp [hg] at q2<;>simp [hr] at k5<;>(refine ⟨nT false,?_⟩;rw [g403L0e];simp (disch:=omega) [-getElem?_pos,g403B0,pC,nV,nT,hb,hi,k1,k2,k3,k4,k5,hg,hr,q2,q3,au])
     · rw [if_pos q2]
       right
       refine ⟨q2,?_⟩
       have hg:b.sg=true:=by
         cases hg:b.sg with
         | true=>rfl
         | false=>simp [sq,hg] at q2
       simp [sq,hg] at q2
       simp [sq,hg]
       simp at k1 k2 k3
       cases z with
       | true=>
         have:=hz rfl
         subst this
         simp at k1
         refine ⟨nT true,?_⟩
         rw [g403L0e]
         simp (disch:=omega) [-getElem?_pos,g403B0,pC,nV,nT,hb,hi,k1,k2,k3,hg,q2]
       | false=>
         refine ⟨nT false,?_⟩
         rw [g403L0e]
         simp (disch:=omega) [-getElem?_pos,g403B0,pC,nV,nT,hb,hi,k1,k2,k3,hg,q2]
structure MQ (Q:Nat) (ds:List Dt) (bs:List Bd):Prop where
 d:rP ds
 len:bs.length≤1000
 ok:∀b∈bs,oB Q b
theorem c403 {Q:Nat} (hQ:Q≤1000) {ds:List Dt} {bs:List Bd} (P:MQ Q ds bs):(aP AP).p 403 [.agg [.aD (ds.map Dt.pv),.aD (bs.map Bd.pv)]]=some [fP (nC ds bs)]:=by
 have hs:=P.d.small
 have k1:=c188 hs.num hs.par hs.gq (fun d hd c hc=>⟨(hs.Qw d hd c hc).1,(hs.Qw d hd c hc).2.1⟩)
 rw [aq (af:=g403) rfl rfl (by decide)]
 unfold nC
 by_cases q:(check ds).1=0
 · have q':¬(check ds).1≠0:=fun h=>h q
   rw [if_neg q']
   rcases Qj hs.num hs.gq hQ P.len P.ok _ 0 rfl (by omega) true [] (fun _=>rfl) (by simp) with ⟨h0,V,T,h⟩ | ⟨h0,T,h⟩
   · rw [List.drop_zero] at h0
     rw [h0]
     rw [g403L0e] at h
     simp [pC,nV,nT] at h
     simp [g403,k1,q,g403L0e,h]
   · rw [List.drop_zero] at h0 h
     generalize kV ds bs []=F at *
     rw [g403L0e] at h
     simp [pC,nV,nT] at h
     simp [g403,k1,q,g403L0e,h]
 · rw [if_pos q]
   simp [g403,k1,q]
end Go.Ab.Lw
namespace Go.Ab.Lw
def Rd (g:Nat) (x:List PV):Option (List PV):=match g,x with
 | 79,[]=>some [.aD (cu.map Dt.pv)]
 | _,_=>none
theorem N9:∀g x r,Rd g x=some r→(aP AP).p g x=some r:=by
 intro g x r h
 unfold Rd at h
 split at h
 · cases h;exact c79
 · cases h
theorem c401:(aP AP).p 401 []=some [.bool true]:=Fc.L7 (k:=100) (n:=30) N9 (by kernel_rfl)
end Go.Ab.Lw
namespace Go.Ab.Lw
open Ev
theorem tD:∀l:List bS,(ic l).length≤l.length
 | []=>by simp [ic]
 | x::r=>by
   have:=tD r
   simp only [ic]
   split<;>simp<;>omega
end Go.Ab.Lw
namespace Go.Ab.Lw
open Ev
theorem Bd.JO (b:Bd):b.cells=[vI b.pos,.bool b.rc,.str b.name,.bool b.sg,vI b.sig.kind,.str b.sig.name,vI b.sig.id,vI b.sig.home,.aD (b.sig.args.map Ty.pv),.int .i64 b.body.kind,.int .i64 b.body.pos,.str b.body.name,.int .i64 b.body.num,.aD (b.body.kids.map Ex.pv),.aD (b.body.bt.map Ar.pv),.int .i64 b.body.ty.kind,.str b.body.ty.name,.int .i64 b.body.ty.id,.int .i64 b.body.ty.home,.aD (b.body.ty.args.map Ty.pv)]:=by
 rw [Bd.cells,Ex.bA];rfl
end Go.Ab.Lw
namespace Go.Ab.Lw
open Ev
theorem JP {ds:List Dt} {e:Ex} {N M:List bS} (h:∀s∈N,s∈M) (z:(gI ds N e).1=0):(gI ds M e).1=0:=by
 unfold gI at z ⊢
 by_cases h1:e.kind=1
 · rw [if_pos h1] at z ⊢
   by_cases h2:e.name∈N
   · rw [if_pos (h _ h2)]
   · rw [if_neg h2] at z;exact absurd z (by decide:¬(9:Int)=0)
 · rw [if_neg h1] at z ⊢;exact z
theorem CE {f:Nat→Ex→vb}:∀{l:List Ex} {i:Nat},(sf f i l).1=0↔∀(k:Nat) (x:Ex),l[k]?=some x→(f (i+k) x).1=0
 | [],i=>by simp [sf]
 | y::r,i=>by
   simp only [sf]
   by_cases h:(f i y).1≠0
   · rw [if_pos h]
     exact ⟨fun h1=>absurd h1 h,fun h1=>h1 0 y rfl⟩
   · rw [if_neg h,CE (l:=r)]
     have h:=Classical.not_not.1 h
     constructor
     · intro h1 k x hk
       cases k with
       | zero=>simp at hk;subst hk;exact h
       | succ k=>have:=h1 k x (by simpa using hk);rwa [show i+1+k=i+(k+1) by omega] at this
     · intro h1 k x hk
       have:=h1 (k+1) x (by simpa using hk)
       rwa [show i+(k+1)=i+1+k by omega] at this
theorem yp {ds:List Dt} {e:Ex} {N:List bS}:(e.bI ds N).1=0↔(gI ds N e).1=0∧∀(k:Nat) (x:Ex),e.ch[k]?=some x→(x.bI ds (N++gA e k)).1=0:=by
 rw [Ex.BC]
 by_cases h:(gI ds N e).1≠0
 · rw [if_pos h]
   exact ⟨fun h1=>absurd h1 h,fun h1=>absurd h1.1 h⟩
 · rw [if_neg h,CE]
   have h:=Classical.not_not.1 h
   constructor
   · intro h1;exact ⟨h,fun k x hk=>by have:=h1 k x hk;simpa using this⟩
   · intro h1 k x hk;have:=h1.2 k x hk;simpa using this
theorem JQ {ds:List Dt} (e:Ex):∀{N M:List bS},(∀s∈N,s∈M)→(e.bI ds N).1=0→(e.bI ds M).1=0:=by
 refine Ex.recC (p:=fun e=>∀{N M:List bS},(∀s∈N,s∈M)→(e.bI ds N).1=0→(e.bI ds M).1=0) ?_ e
 intro e ih N M h z
 rw [yp] at z ⊢
 refine ⟨JP h z.1,fun k x hk=>ih x (bm hk) (fun s hs=>?_) (z.2 k x hk)⟩
 rcases List.mem_append.1 hs with hs | hs
 · exact List.mem_append.2 (.inl (h s hs))
 · exact List.mem_append.2 (.inr hs)
theorem JR {ds:List Dt}:∀{p:List Int} {e x:Ex} {N:List bS},e.at p=some x→(e.bI ds N).1=0→(x.bI ds (N++e.sd p)).1=0
 | [],e,x,N,h,z=>by
   simp [Ex.at] at h;subst h
   simpa [Ex.sd] using z
 | i::r,e,x,N,h,z=>by
   rw [Ex.at] at h
   by_cases hi:0≤i∧i<e.ch.length
   · rw [if_pos hi] at h
     cases hy:e.ch[i.toNat]? with
     | none=>rw [hy] at h;cases h
     | some y=>
       rw [hy] at h
       have:=JR (p:=r) h ((yp.1 z).2 _ _ hy)
       rw [Ex.sd,hy,←List.append_assoc]
       exact this
   · rw [if_neg hi] at h;cases h
theorem lG {s:bS}:∀{l:List bS},s∈l→s∈ic l
 | x::r,h=>by
   simp only [ic]
   by_cases hx:x∈r
   · rw [if_pos hx]
     rcases List.mem_cons.1 h with rfl | h
     · exact lG hx
     · exact lG h
   · rw [if_neg hx]
     rcases List.mem_cons.1 h with rfl | h
     · exact List.mem_cons_self
     · exact List.mem_cons_of_mem _ (lG h)
theorem rO {ds:List Dt}:∀{bs:List Bd} {names:List bS},(kV ds bs names).1=0→∀(k:Nat) (b:Bd),bs[k]?=some b→(b.body.bI ds (names++bs.map Bd.name)).1=0
 | [],names,h,k,b,hb=>by simp at hb
 | c::r,names,h,k,b,hb=>by
   simp only [kV] at h
   by_cases h1:c.name∈names
   · rw [if_pos h1] at h;exact absurd h (by decide:¬(6:Int)=0)
   · rw [if_neg h1] at h
     by_cases h2:sq ds c≠0
     · rw [if_pos h2] at h;exact absurd h h2
     · rw [if_neg h2] at h
       by_cases h3:(c.body.bI ds (jw c names)).1≠0
       · rw [if_pos h3] at h;exact absurd h h3
       · rw [if_neg h3] at h
         have h3:=Classical.not_not.1 h3
         cases k with
         | zero=>
           simp at hb;subst hb
           refine JQ c.body (fun s hs=>?_) h3
           unfold jw at hs
           split at hs
           · simp at hs ⊢;rcases hs with hs | hs
             · exact .inl hs
             · exact .inr (.inl hs)
           · simp [hs]
         | succ k=>
           have:=rO h k b (by simpa using hb)
           simpa using this
theorem Gb {ds:List Dt} {bs:List Bd} (h:(nC ds bs).1=0) {k:Nat} {b:Bd} (hb:bs[k]?=some b) {p:List Int} {x:Ex} (hx:b.body.at p=some x) :
   x.bI ds (rq b.body p++bs.map Bd.name)=(0,0):=by
 unfold nC at h
 by_cases hc:(check ds).1≠0
 · rw [if_pos hc] at h;exact absurd h hc
 · rw [if_neg hc] at h
   have h1:=rO h k b hb
   have h2:=JR hx h1
   refine rE (JQ x (fun s hs=>?_) h2)
   simp only [List.nil_append,List.mem_append] at hs ⊢
   rcases hs with hs | hs
   · exact .inr hs
   · refine .inl ?_
     unfold rq
     rw [hx]
     exact lG hs
end Go.Ab.Lw
namespace Go.Ab.Lw
open Ev
theorem CF {y:Ex} {m:Nat}:∀{p:List Int} {e x:Ex},e.at p=some x→x.ch[m]?=some y→e.at (p++[(m:Int)])=some y
 | [],e,x,h,hy=>by
   simp [Ex.at] at h;subst h
   have:=(List.getElem?_eq_some_iff.1 hy).1
   rw [List.nil_append,Ex.at,if_pos (by omega)]
   simp [hy,Ex.at]
 | i::r,e,x,h,hy=>by
   rw [Ex.at] at h
   rw [List.cons_append,Ex.at]
   by_cases hi:0≤i∧i<e.ch.length
   · rw [if_pos hi] at h ⊢
     cases hz:e.ch[i.toNat]? with
     | none=>rw [hz] at h;cases h
     | some z=>rw [hz] at h;exact CF (p:=r) h hy
   · rw [if_neg hi] at h;cases h
theorem c404i {e y:Ex} (he:e.Ok) (h1:e.One) {p:List Int} (hp:p.length<100000) (hx:e.at p=some y):∃X,a7 X ∧
   (aP AP).i 404 [.pv e.pv,.pv (.aD (p.map vI))] [] []=some ([oh X (rq e p)],nh X (rq e p),oi (rq e p)):=by
 have c:=c410 he (p:=p) (by unfold Sm;omega)
 rw [hx] at c
 simp [atR] at c
 obtain ⟨X',q,hX',h⟩:=Md hp _ 0 rfl (by omega) e [] [] he h1 (by intro cs h;simp at h) hx (by simp)
 unfold rq
 rw [hx]
 simp only []
 rw [List.drop_zero,FP] at h
 generalize ic (e.sd p)=r at *
 have hn:=hX'.norm
 have hn1:∀aQ ts,bC aQ ts (X'++[some (tx r)])=(X'++[some (tx r)],aQ,ts):=(hX'.app (a7.one gH)).norm
 rw [g404L0e] at h
 by_cases h0:r=[]
 · subst h0
   refine ⟨[],by intro cs h;simp at h,?_⟩
   rw [aK (af:=g404) rfl (by simp [g404])]
   simp [oh,nh,oi] at h
   simp [g404,c,g404L0e,h,oh,nh,oi,hn]
 · refine ⟨X',hX',?_⟩
   rw [aK (af:=g404) rfl (by simp [g404])]
   simp only [oh,nh,oi,if_neg h0] at h ⊢
   generalize tx r=T at *
   simp at h
   simp [g404,c,g404L0e,h,hn1]
theorem JS:∀{p:List Int} {e x:Ex},e.at p=some x→xU e→xU x∧∀n,e.vd n→∃m,m≤n∧x.vd m
 | [],e,x,h,hs=>by
   simp [Ex.at] at h;subst h
   exact ⟨hs,fun n hn=>⟨n,Nat.le_refl n,hn⟩⟩
 | i::r,e,x,h,hs=>by
   rw [Ex.at] at h
   by_cases hi:0≤i∧i<e.ch.length
   · rw [if_pos hi] at h
     cases hy:e.ch[i.toNat]? with
     | none=>rw [hy] at h;cases h
     | some y=>
       rw [hy] at h
       have ⟨a,b⟩:=JS (p:=r) h (hs.c (bm hy))
       refine ⟨a,fun n hn=>?_⟩
       cases n with
       | zero=>cases hn
       | succ n=>have ⟨m,hm,hh⟩:=b n (hn.c y (bm hy));exact ⟨m,by omega,hh⟩
   · rw [if_neg hi] at h;cases h
def BQ (h:Int) (path:List Int) (C9 C10 C12:List AV) (j:Int) (l:Bool):Option (a6×St):=
 some (.exit 0,⟨[(3,.pv (vI h)),(9,.az 9 0),(10,.az 10 0),(11,.own (path.map vI) 0),(12,.az 12 0),(13,.pv (vI j))]++(if l then [(51,.pv (.bool false))] else [(14,.pv (.aD [])),(58,.pv (.bool true))]),[(9,C9),(10,C10),(12,C12)],[],[path.length]⟩)
theorem MR {h M:Int} {C9 C10:List AV} (h9:∀v∈C9,∃p,v=AV.pv p) (h10:∀v∈C10,∃p,v=AV.pv p) (hM:(aP AP).p 26 [vI h,vI 6]=some [vI M]) (hM6:M<6) {e:Ex} :
   ∀(n i:Nat),6-i=n→i≤6→∀(x:Ex) (path:List Int),e.at path=some x→xU e→path.length≤i→∃(path':List Int) (y:Ex) (j:Int) (l:Bool),e.at path'=some y∧path'.length≤6 ∧
   cl AP g400L0 ⟨[(3,.pv (vI h)),(9,.az 9 0),(10,.az 10 0),(11,.own (path.map vI) 0),(12,.az 12 0),(13,.pv (vI i))],[(9,C9),(10,C10),(12,x.cl)],[],[path.length]⟩ =
     BQ h path' C9 C10 y.cl j l
 | 0,i,hn,hi,x,path,hx,hs,hl=>by
   have:i=6:=by omega
   subst this
   have e9:∀aQ ts,bz aQ ts C9=(C9,aQ,ts):=fun aQ ts=>gk h9
   have mA:∀aQ ts,bz aQ ts C10=(C10,aQ,ts):=fun aQ ts=>gk h10
   refine ⟨path,x,6,true,hx,hl,?_⟩
   have:¬(6:Int)<M:=by omega
   rw [g400L0e]
   try simp at hM
   simp [g400B0,hM,this,BQ,e9,mA]
 | n+1,i,hn,hi,x,path,hx,hs,hl=>by
   have hi:i<6:=by omega
   have e9:∀aQ ts,bz aQ ts C9=(C9,aQ,ts):=fun aQ ts=>gk h9
   have mA:∀aQ ts,bz aQ ts C10=(C10,aQ,ts):=fun aQ ts=>gk h10
   have hS:=(JS hx hs).1
   have hO:=hS.ok
   have c:=c145 hO
   have hxl:=Ex.kO (e:=x)
   have hkk:=hO.k
   have hka:=hO.a
   by_cases hlt:(i:Int)<M
   · by_cases h0:x.ch=[]
     · refine ⟨path,x,i,false,hx,by omega,?_⟩
       rw [h0] at c
       try simp at hM
       simp at c
       rw [g400L0e]
       simp [-getElem?_pos,g400B0,hM,hlt,c,BQ,e9,mA]
     · have hp:0<x.ch.length:=List.length_pos_iff.2 h0
       obtain ⟨r,c2,r0,r1⟩:=c26 (n:=IntKind.i64.wrap (h+IntKind.i64.wrap (3*(i:Int)))) (m:=x.ch.length) (by omega) (by omega)
       obtain ⟨m,rfl,hm⟩:=jS r0 r1
       obtain ⟨y,hy⟩:=bp hm
       obtain ⟨path',z,j,l,hp',hl',ih⟩:=MR h9 h10 hM hM6 n (i+1) (by omega) (by omega) y (path++[(m:Int)]) (CF hx hy) hs (by simp;omega)
       refine ⟨path',z,j,l,hp',hl',?_⟩
       generalize BQ h path' C9 C10 z.cl j l=R at ih ⊢
       have hb:(path.length+1)*8≤140737488355328:=by omega
       have hw:IntKind.i64.wrap ((i:Int)+1)=i+1:=au (by omega) (by omega)
       try simp at hM
       simp at c c2
       generalize x.ch=D at *
       rw [g400L0e] at ih ⊢
       simp [e9,mA] at ih ⊢
       simp (disch:=omega) [-getElem?_pos,g400B0,hM,hlt,c,c2,h0,hy,hm,hb,hw,e9,mA]
       rw [g400L0e]
       simp [ih,e9,mA]
   · refine ⟨path,x,i,true,hx,by omega,?_⟩
     rw [g400L0e]
     try simp at hM
     simp [g400B0,hM,hlt,BQ,e9,mA]
theorem JT {ds:List Dt} {bs:List Bd} (hB:bs.length≤1000) {x:Ex}:∀(n i:Nat),bs.length-i=n→i≤bs.length→∀(X:Sh) (l:List bS),a7 X→l.length+n<1000000000→∃X',a7 X' ∧
   cl AP g400L1 ⟨[(9,.az 9 0),(12,.az 12 0),(16,oh X l),(17,.pv (vI i))],[(9,pC ds bs),(12,x.cl)],nh X l,oi l⟩ =
     some (.exit 2,⟨[(9,.az 9 0),(12,.az 12 0),(16,oh X' (l++(bs.drop i).map Bd.name)),(17,.pv (vI bs.length)),(82,.pv (.bool false))],[(9,pC ds bs),(12,x.cl)],nh X' (l++(bs.drop i).map Bd.name),oi (l++(bs.drop i).map Bd.name)⟩)
 | 0,i,hn,hi,X,l,hX,hl=>by
   have:i=bs.length:=by omega
   subst this
   refine ⟨X,hX,?_⟩
   have hn0:=hX.norm
   have hn1:∀aQ ts,bC aQ ts (X++[some (tx l)])=(X++[some (tx l)],aQ,ts):=(hX.app (a7.one gH)).norm
   rw [g400L1e]
   by_cases h0:l=[]
   · subst h0
     simp [g400B1,oh,nh,oi,hn0,pC]
   · simp only [List.drop_length,List.map_nil,List.append_nil,oh,nh,oi,if_neg h0]
     generalize X++[some (tx l)]=S1 at *
     simp [g400B1,hn1,pC]
 | n+1,i,hn,hi,X,l,hX,hl=>by
   have hi:i<bs.length:=by omega
   obtain ⟨b,hb⟩:=bp hi
   have hw:IntKind.i64.wrap ((i:Int)+1)=i+1:=au (by omega) (by omega)
   have hn0:=hX.norm
   have hs0:=hX.shift
   rw [bL hb,List.map_cons]
   by_cases h0:l=[]
   · subst h0
     obtain ⟨X',hX',ih⟩:=JT (ds:=ds) hB (x:=x) n (i+1) (by omega) (by omega) X [b.name] hX (by simp;omega)
     refine ⟨X',hX',?_⟩
     have hn1:∀aQ ts,bC aQ ts (X++[some [.pv (.str b.name)]])=(X++[some [.pv (.str b.name)]],aQ,ts):=(hX.app (a7.one (cs:=[AV.pv (.str b.name)]) (by intro v hv;simp at hv;exact ⟨_,hv⟩))).norm
     simp only [List.nil_append,List.cons_append] at ih ⊢
     generalize b.name::List.map Bd.name (bs.drop (i+1))=r at ih ⊢
     rw [g400L1e] at ih ⊢
     simp [oh,nh,oi,tx,hn1,pC] at ih ⊢
     simp (disch:=omega) [-getElem?_pos,g400B1,hb,hi,hn0,hs0,hn1,hw]
     rw [g400L1e]
     simp [hn1,ih]
   · have hXN:a7 (X++[none]):=hX.app (by intro cs hc v hv;simp at hc)
     obtain ⟨X',hX',ih⟩:=JT (ds:=ds) hB (x:=x) n (i+1) (by omega) (by omega) (X++[none]) (l++[b.name]) hXN (by simp;omega)
     refine ⟨X',hX',?_⟩
     have hn1:∀aQ ts,bC aQ ts (X++[some (tx l)])=(X++[some (tx l)],aQ,ts):=(hX.app (a7.one gH)).norm
     have hn3:∀aQ ts,bC aQ ts (X++[none,some (tx (l++[b.name]))])=(X++[none,some (tx (l++[b.name]))],aQ,ts):=by
       have:=(hXN.app (a7.one (cs:=tx (l++[b.name])) gH)).norm
       simpa using this
     have hup:l++[b.name]≠[]:=by simp
     have hul2:(l++[b.name]).length=l.length+1:=by simp
     have htl:(tx l).length=l.length:=kM
     have hmB:cQ (tx l)=false:=dh gH
     have htx:tx (l++[b.name])=(tx l).take l.length++[.pv (.str b.name)]:=by
       rw [List.take_of_length_le (by rw [htl];omega)];simp [tx]
     rw [List.append_assoc,List.cons_append,List.nil_append] at ih
     simp only [oh,nh,oi,if_neg h0,if_neg hup] at ih ⊢
     generalize l++b.name::List.map Bd.name (bs.drop (i+1))=r at ih ⊢
     rw [hul2] at ih
     have hb1:(l.length+1)*16≤140737488355328:=by omega
     generalize tx (l++[b.name])=TU at htx hn3 ih
     generalize tx l=TL at hn1 htl hmB htx ⊢
     generalize (if r=[] then AV.own [] 0 else AV.bq X'.length 1 r.length false)=VR at ih ⊢
     generalize (if r=[] then X' else X'++[some (tx r)])=SR at ih ⊢
     generalize (if r=[] then ([0]:aL) else [])=TR at ih ⊢
     rw [g400L1e] at ih ⊢
     simp [hn3,pC] at ih
     simp (disch:=omega) [-getElem?_pos,g400B1,pC,hb,hi,hn0,hs0,hn1,hw,hmB,htl,hb1,←htx]
     rw [g400L1e]
     simp [hn3,ih]
theorem N_ (bits:Int) (L:List Int) (way h:Int):(aP AP).p 400 [vI bits,.aD (L.map vI),vI way,vI h]=some [.bool true]:=by
 have c0:=c401
 have c1:=c15 (l:=L)
 rw [aq (af:=g400) rfl rfl (by decide)]
 by_cases hL:L.length≤60
 · simp [hL] at c1
   obtain ⟨ds,bs,hD,h0,h4,ho,e1⟩:=c310 (L:=L) (by omega) bits way
   have P:MQ 200 ds bs:=⟨hD,by omega,ho⟩
   have k1:=c403 (by omega) P
   by_cases z:(nC ds bs).1=0
   · obtain ⟨r,k2,r0,r1⟩:=c26 (n:=h) (m:=bs.length) (by omega) (by omega)
     obtain ⟨m,rfl,hm⟩:=jS r0 r1
     obtain ⟨b,hb⟩:=bp hm
     have B:=ho b (bm hb)
     obtain ⟨M,k3,M0,M1⟩:=c26 (n:=h) (m:=6) (by omega) (by omega)
     have v9:∀v∈pC ds bs,∃p,v=AV.pv p:=by intro v hv;simp [pC] at hv;rcases hv with rfl | rfl<;>exact ⟨_,rfl⟩
     have v10:∀v∈b.cells.map AV.pv,∃p,v=AV.pv p:=by intro v hv;obtain ⟨p,_,rfl⟩:=List.mem_map.1 hv;exact ⟨p,rfl⟩
     obtain ⟨path,y,j,l,hx,hp,q1⟩:=MR (C9:=pC ds bs) (C10:=b.cells.map AV.pv) v9 v10 k3 M1 (e:=b.body) _ 0 rfl (by omega) b.body [] (by simp [Ex.at]) B.sc (by simp)
     obtain ⟨hS,hh⟩:=JS hx B.sc
     obtain ⟨n,hn,hh⟩:=hh 200 B.h
     obtain ⟨X,hX,q2⟩:=c404i B.sc.ok B.sc.one (p:=path) (by omega) hx
     have hvl:(rq b.body path).length≤1000000:=by
       have h1:=Co B.sc.ok hx
       have h2:=tD (b.body.sd path)
       unfold rq;rw [hx]
       simp only
       omega
     obtain ⟨X2,hX2,q3⟩:=JT (ds:=ds) (bs:=bs) (by omega) (x:=y) _ 0 rfl (by omega) X (rq b.body path) hX (by omega)
     have q4:=c405 hD.small.num hD.small.gq n hS hh (rq b.body path++bs.map Bd.name) (by simp;omega)
     rw [Gb z hb hx] at q4
     rw [List.drop_zero] at q3
     generalize rq b.body path=V at *
     have hne:V++bs.map Bd.name≠[]:=by
       intro e;have e2:=(List.append_eq_nil_iff.1 e).2;rw [List.map_eq_nil_iff] at e2;subst e2;simp at h0
     have hn0:=hX.norm
     have hs0:=hX.shift
     have hnV:∀aQ ts,bC aQ ts (X++[some (tx V)])=(X++[some (tx V)],aQ,ts):=(hX.app (a7.one gH)).norm
     have hsV:∀n,eB n (X++[some (tx V)])=X++[some (tx V)]:=(hX.app (a7.one gH)).shift
     generalize V++bs.map Bd.name=W at *
     have hn2:∀aQ ts,bC aQ ts (X2++[some (tx W)])=(X2++[some (tx W)],aQ,ts):=(hX2.app (a7.one gH)).norm
     have hfr:=Jh W
     have hlen:=kM (l:=W)
     simp only [oh,nh,oi,if_neg hne] at q3
     have hcells:=Bd.JO b
     have z1:(nC ds bs).1=0:=z
     have hbs:bs≠[]:=by intro e;subst e;simp at h0
     generalize nC ds bs=F at *
     rw [g400L0e] at q1
     rw [g400L1e] at q3
     generalize tx W=TW at *
     by_cases hV:V=[]
     · subst hV
       simp only [oh,nh,oi,if_pos rfl] at q2 q3
       simp [pC,hcells] at e1 k1 k2 k3 q1 q2 q3 q4
       try simp [hn0] at q3
       cases l<;>simp (config:={ maxSteps:=2000000 }) [BQ] at q1<;>simp (config:={ maxSteps:=2000000 }) (disch:=omega) [-getElem?_pos,g400,c0,c1,e1,k1,k2,k3,z1,hbs,hb,hm,hn0,hs0,hn2,g400L0e,g400L1e,q1,q2,q3,q4,hfr,hlen,eA]
     · simp only [oh,nh,oi,if_neg hV] at q2 q3
       generalize tx V=TV at *
       simp [pC,hcells] at e1 k1 k2 k3 q1 q2 q3 q4
       simp [hnV] at q3
       cases l<;>simp (config:={ maxSteps:=2000000 }) [BQ] at q1<;>simp (config:={ maxSteps:=2000000 }) (disch:=omega) [-getElem?_pos,g400,c0,c1,e1,k1,k2,k3,z1,hbs,hb,hm,hn0,hs0,hnV,hsV,hn2,g400L0e,g400L1e,q1,q2,q3,q4,hfr,hlen,eA]
   · have z0:¬(nC ds bs).1=0:=z
     have hne:bs≠[]:=by intro e;subst e;simp at h0
     generalize nC ds bs=F at *
     simp at e1 k1
     simp [g400,c0,c1,e1,k1,z0,hne]
 · simp [hL] at c1
   simp [g400,c0,c1]
end Go.Ab.Lw
