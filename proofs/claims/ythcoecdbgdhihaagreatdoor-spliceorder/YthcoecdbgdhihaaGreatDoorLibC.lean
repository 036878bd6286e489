import Derived.Test.YthcoecdbgdhihaaGreatDoorLibB
/-
  Children as an array that may be written; other children, by the program.
  Other children, by the program.
  Other children, by the program: the function.
  Other children, by the program: the arrays may be written.
  Expressions without positions, by the program.
  Expressions without positions, by the program: the function.
  What stands at a path is replaced, by the program.
  Programs without positions: the constructors of a data type.
  Programs without positions: the data types.
  Programs without positions: the loop over data types.
  Programs without positions: the function.
  The holes of an expression behind a change at a hole.
  Depths of types.
  Types that are too deep.
  Valid expressions, by the program: the parts.
  Valid expressions, by the program.
  Valid expressions, by the program: the whole of tree.Valid.
  Programs without positions, as arrays that may be written.
  Filling a hole.
  The maker of programs, by itself.
  Texts of types and expressions, by the program alone.
  The texts of programs without positions, one binding of which may have grown.
  Stripped expressions aU their forms.
  Expressions that the maker makes fill holes.
  A hole in a hole's place changes nothing.
  Expressions that are equal apart from positions, by the reference.
  Programs that are equal apart from positions, by the reference.
  Stripping twice; programs to compare.
  The law SpliceCounts.
  Two holes filled: changes at different holes may change places, and the names at a hole stay.
  Two holes of a program filled, one after the other: in either order the same program.
  Scopes do not hang on positions; a hole of a filled program may be filled.
  The law SpliceOrder.
-/
set_option linter.unusedVariables false
set_option linter.unusedSimpArgs false
set_option linter.unnecessarySimpa false
set_option maxRecDepth 100000
set_option maxHeartbeats 8000000
namespace Go.Ab.Ev
variable {sh:Sh} {vals:List AV} {cells:Option (List AV)} {aa:aG}
@[simp] theorem add0_ {v:AV} {c:Option (List AV)} {s:Sh} {t:aG}:Xo sh (some ⟨v,c,s,t⟩)=if r5 s sh=true then some ⟨v,none,sh,t⟩ else none:=rfl
@[simp] theorem add1_:AK.key .ff=none:=rfl
@[simp] theorem add2_:Gw [] []=true:=rfl
@[simp] theorem add3_ {a b:AV} {r q:List AV}:Gw (a::r) (b::q)=(Tb a b && Gw r q):=rfl
@[simp] theorem add4_:r5 [] []=true:=rfl
@[simp] theorem add5_ {a b:List AV} {r q:Sh}:r5 (some a::r) (some b::q)=(Gw a b && r5 r q):=rfl
end Go.Ab.Ev
namespace Go.Ab.Lw
open Ev
theorem nu:aL []:=by intro cs h;simp at h
theorem c414i{e:Ex}(h:e.Ok):∃k,(aC AP).i 414 [.pv e.pv] [] []=some (if e.ch=[] then ([.own [] 0],[],[0]) else ([.aP k 11 e.ch.length true],nn k++[some (aN Ex.cells e.ch)],[])):=by
 have hk:=h.k;have ha:=h.a;obtain⟨k,h2⟩:=O1 ha _ 0 rfl (by omega) [] e.kids nu (by omega);rw[List.drop_zero]at h2
 change cl AP g414L0 _=some (.exit 0,⟨[(3,hV ([]++nn k) e.ch),(10,.pv (.au (e.aD.map Ar.pv))),(11,.pv (vI e.aD.length)),(12,.pv (vI e.aD.length)),(13,.pv (.bool false))],[],hS ([]++nn k) e.ch,hT e.ch⟩)at h2
 rw[List.nil_append]at h2;have hb2:e.kids.length*152≤140737488355328:=by omega
 have hm:=uP (l:=e.kids);have hq0:∀aI ts,a9 aI ts ([some (aN Ex.cells e.kids)])=([some (aN Ex.cells e.kids)],aI,ts):=(aL.one aY).norm;have hq1:∀aI ts,a9 aI ts (nn k)=(nn k,aI,ts):=(ct k).norm;have hq2:∀aI ts,a9 aI ts (nn k++[some (aN Ex.cells e.ch)])=(nn k++[some (aN Ex.cells e.ch)],aI,ts):=((ct k).app (aL.one aY)).norm;have hln:(nn k).length=k:=by simp
 refine⟨k,?_⟩;rw[aE (af:=g414) rfl (by simp[g414])];by_cases hc:e.ch=[]
 · have h0:e.kids=[]∧e.aD=[]:=by have:=hc;simpa[Ex.ch] using this
   simp only[hc,hV,hS,hT,if_true,h0.1]at h2⊢;rw[g414L0e]at h2;simp[h0.1,h0.2]at h2;simp[g414,h0.1,h0.2,g414L0e,h2,hq1]
 · by_cases h0:e.kids=[]
   ·simp only[hV,hS,hT,if_neg hc,h0,if_true,hln]at h2⊢;generalize nn k++[some (aN Ex.cells e.ch)]=S2 at *;generalize aN Ex.cells e.ch=F at *;rw[g414L0e]at h2;simp[h0]at h2;simp[-getElem?_pos,g414,h0,g414L0e,h2,hq2]
   ·simp only[hV,hS,hT,if_neg hc,if_neg h0,hln]at h2⊢;generalize nn k++[some (aN Ex.cells e.ch)]=S2 at *;generalize aN Ex.cells e.ch=F at *;generalize aN Ex.cells e.kids=F0 at *;rw[g414L0e]at h2;simp[hq0]at h2;simp[-getElem?_pos,g414,h0,hb2,hm,hq0,g414L0e,h2,hq2]
theorem Sk{e:Ex}{c:List Ex}{n0 N B0 B:Nat}(hN:N≤1000)(hc:c.length=n0+N)(hn0:n0≤1000){SA:List Ar→Sh}(h1:∀c,(SA c)[B]?=some (some (aN Ar.cells c)))(h2:∀c c',(SA c).set B (some (aN Ar.cells c'))=SA c')(h3:∀c,aL (SA c)) :
   ∀(n i:Nat),N-i=n→i≤N→∀as:List Ar,as.length=N →
   cl AP g556L0 ⟨[(1,.pv (.au (c.map Ex.pv))),(2,.az 2 0),(4,.az 4 0),(5,.pv (vI n0)),(6,.aP B0 11 n0 true),(7,.aP B 14 N true),(35,.pv (vI N)),(36,.pv (vI i))],[(2,e.cl),(4,zO)],SA as,[0,0,0]⟩ =
     some (.exit 0,⟨[(1,.pv (.au (c.map Ex.pv))),(2,.az 2 0),(4,.az 4 0),(5,.pv (vI n0)),(6,.aP B0 11 n0 true),(7,.aP B 14 N true),(35,.pv (vI N)),(36,.pv (vI N)),(37,.pv (.bool false))],[(2,e.cl),(4,zO)],SA (as.take i++dS (as.drop i) (c.drop (n0+i))),[0,0,0]⟩)
 |0,i,hn,hi,as,ha=>by
   have:i=N:=by omega
   subst this;have hq:=(h3 as).norm;rw[mm (l:=as) (by omega),List.take_of_length_le (by omega)];simp only[dS,List.append_nil];generalize SA as=S at *;rw[g556L0e];simp[g556B0,zO,hq]
 |n+1,i,hn,hi,as,ha=>by
   have hi:i<N:=(by omega);obtain⟨a,hx⟩:=aV (l:=as) (i:=i) (by omega);obtain⟨x,hy⟩:=aV (l:=c) (i:=n0+i) (by omega);have hci:n0+i<c.length:=(by omega);have ih:=Sk (e:=e) (B0:=B0) hN hc hn0 h1 h2 h3 n (i+1) (by omega) (by omega) (as.set i ⟨a.pos,a.cZ,a.vars,x⟩) (by simpa using ha)
   have hset:=lq f_ hx (y:=⟨a.pos,a.cZ,a.vars,x⟩) (o:=3) (vs:=x.cells) (by rw[bU.len];omega) (by
     have h1:=bU.len a.body;have h2:=bU.len x;simp only[Ar.cells,List.take_succ_cons,List.take_zero,List.cons_append,List.nil_append,List.drop_succ_cons,List.drop_zero,h2];rw[List.drop_eq_nil_of_le (by simp[h1]),List.append_nil])
   rw[Ex.mA]at hset
   have hfin:as.take i++dS (as.drop i) (c.drop (n0+i))=(as.set i ⟨a.pos,a.cZ,a.vars,x⟩).take (i+1)++dS ((as.set i ⟨a.pos,a.cZ,a.vars,x⟩).drop (i+1)) (c.drop (n0+(i+1))):=by
     have h1:(as.set i ⟨a.pos,a.cZ,a.vars,x⟩).take (i+1)=as.take i++[⟨a.pos,a.cZ,a.vars,x⟩]:=by
       rw[List.set_eq_take_append_cons_drop,if_pos (by omega),List.take_append,List.take_of_length_le (by simp;omega)];have:i+1-(as.take i).length=1:=by simp;omega
       rw[this];rfl
     rw[h1,List.drop_set_of_lt (by omega),bj hx,bj hy];simp[dS,Nat.add_assoc]
   rw[hfin];generalize (as.set i ⟨a.pos,a.cZ,a.vars,x⟩).take (i+1)++dS ((as.set i ⟨a.pos,a.cZ,a.vars,x⟩).drop (i+1)) (c.drop (n0+(i+1)))=R at ih⊢;have hs1:=h1 as;have hs2:=h2 as (as.set i ⟨a.pos,a.cZ,a.vars,x⟩);have hq:=(h3 as).norm;have hq1:=(h3 (as.set i ⟨a.pos,a.cZ,a.vars,x⟩)).norm;have hB:bV (aN Ar.cells as)=false:=bI aY;have hlen:(aN Ar.cells as).length=N*14:=by rw[bo f_,ha]
   have hle:i*14+3+11≤N*14:=(by omega);generalize SA (as.set i ⟨a.pos,a.cZ,a.vars,x⟩)=S1 at *;generalize SA as=S at *;generalize SA R=S2 at *;generalize aN Ar.cells (as.set i ⟨a.pos,a.cZ,a.vars,x⟩)=T1 at *;generalize aN Ar.cells as=T at *;have hil:((n0:Int)+i).toNat=n0+i:=(by omega);have hpos:¬((n0:Int)+i<0):=(by omega);rw[g556L0e]at ih⊢;simp[zO,hq1]at ih hset;simp (disch:=omega) [-getElem?_pos,g556B0,zO,hq,hi,hy,hci,hs1,hB,hlen,hle,hset,hs2,ah,hil,hpos];rw[g556L0e];simp[hq1,ih]
def zE:List PV:=[.int .i64 0,.int .i64 0,.str [],.int .i64 0,.au [],.au [],.int .i64 0,.str [],.int .i64 0,.int .i64 0,.au []]
def zA:List PV:=[.int .i64 0,.str [],.au [],.int .i64 0,.int .i64 0,.str [],.int .i64 0,.au [],.au [],.int .i64 0,.str [],.int .i64 0,.int .i64 0,.au []]
theorem Sn{l:List AV}{n:Nat}:((List.replicate n l).flatten).length=n*l.length:=by
 induction n with
 |zero=>simp
 |succ n ih=>rw[List.replicate_succ,List.flatten_cons,List.length_append,ih,Nat.add_mul];omega
theorem M8{l:List AV}{n:Nat}{v:AV}(h:v∈(List.replicate n l).flatten):v∈l:=by
 rw[List.mem_flatten]at h;obtain⟨m,h1,h2⟩:=h;rw[List.mem_replicate]at h1;rw[←h1.2];exact h2
theorem QN{l:List PV}{n:Nat}:∀v∈(List.replicate n (l.map AV.pv)).flatten,∃p,v=AV.pv p:=by
 intro v hv;obtain⟨p,_,rfl⟩:=List.mem_map.1 (M8 hv);exact⟨p,rfl⟩
theorem y6{l:List PV}{n:Nat}{f:AV→Bool}(h:(l.map AV.pv).all f=true):((List.replicate n (l.map AV.pv)).flatten).all f=true:=by
 rw[List.all_eq_true]at h⊢;exact fun v hv=>h v (M8 hv)
structure ZR(Z:List AV)(n sz:Nat):Prop where
 len:Z.length=n*sz
 mp:bV Z=false
 q:∀(X:Sh),aL X→aL (X++[some Z])
theorem Gr{l:List PV}{n:Nat}:ZR ((List.replicate n (l.map AV.pv)).flatten) n l.length:=⟨by rw[Sn,List.length_map],bI QN,fun X h=>h.app (aL.one QN)⟩
theorem c556{e:Ex}(hk:e.kids.length≤1000)(ha:e.aD.length≤1000){c:List Ex}:(aC AP).p 556 [e.pv,.au (c.map Ex.pv)]=some [(e.kq c).pv]:=by
 rw[ae (af:=g556) rfl rfl (by decide)];unfold Ex.kq;by_cases hc:c.length=e.kids.length+e.aD.length
 · rw[if_pos hc];have hci:(c.length:Int)=(e.kids.length:Int)+e.aD.length:=by omega
   have hb1:(e.kids.length:Int)*152≤140737488355328:=(by omega);have hb2:(e.aD.length:Int)*200≤140737488355328:=(by omega);have hb3:(e.kids.length:Int)≤9223372036854775807:=(by omega);have hb4:(e.aD.length:Int)≤9223372036854775807:=(by omega);have z1:=Gr (l:=zE) (n:=e.kids.length);have z2:=Gr (l:=zA) (n:=e.aD.length);have z2a:=y6 (l:=zA) (n:=e.aD.length) (f:=cN) (by rfl);have z2b:=y6 (l:=zA) (n:=e.aD.length) (f:=aK 2) (by rfl);have hq0:=(z1.q [] nu).norm;have hq1:=(z2.q _ (z1.q [] nu)).norm;have hn0:(c.take e.kids.length).length=e.kids.length:=(by simp;omega);have f1:(aN Ex.cells (c.take e.kids.length)).length=e.kids.length*11:=(by rw[bo bU,hn0]);have f2:(aN Ar.cells e.aD).length=e.aD.length*14:=bo f_;have s1:List.drop (e.kids.length*11) (List.replicate e.kids.length (zE.map AV.pv)).flatten=[]:=List.drop_eq_nil_of_le (by rw[z1.len];exact Nat.le_refl _);have s2:List.drop (aN Ar.cells e.aD).length (List.replicate e.aD.length (zA.map AV.pv)).flatten=[]:=List.drop_eq_nil_of_le (by rw[f2,z2.len];exact Nat.le_refl _);have m1:=uP (l:=c.take e.kids.length);have m2:=MD (l:=e.aD)
   have h:=Sk (e:=e) (c:=c) (n0:=e.kids.length) (N:=e.aD.length) (B0:=0) (B:=1) ha hc hk (SA:=fun as=>[some (aN Ex.cells (c.take e.kids.length)),some (aN Ar.cells as)]) (fun _=>rfl) (fun _ _=>rfl)
     (fun as=>(aL.one aY).app (aL.one aY)) _ 0 rfl (by omega) e.aD rfl
   simp only[List.take_zero,List.drop_zero,List.nil_append,Nat.add_zero]at h;have l1:=oE (l:=c.take e.kids.length);have l2:=Fa (l:=dS e.aD (c.drop e.kids.length));have f3:(aN Ar.cells (dS e.aD (c.drop e.kids.length))).length=e.aD.length*14:=by rw[bo f_,kH]
   rw[kH]at l2;rw[hn0]at l1;have q2:∀aI ts,a9 aI ts [some (aN Ex.cells (c.take e.kids.length)),some (aN Ar.cells e.aD)]=([some (aN Ex.cells (c.take e.kids.length)),some (aN Ar.cells e.aD)],aI,ts):=((aL.one aY).app (aL.one aY)).norm;generalize dS e.aD (c.drop e.kids.length)=R at *;generalize aN Ar.cells R=TR at *;generalize aN Ar.cells e.aD=TA at *;have hK:List.take e.kids.length (List.map Ex.pv c)=List.map Ex.pv (List.take e.kids.length c):=List.map_take.symm;have hA:List.take e.aD.length (List.map Ar.pv e.aD)=List.map Ar.pv e.aD:=List.take_of_length_le (by simp);generalize List.take e.kids.length c=K at *;generalize aN Ex.cells K=TK at *;obtain⟨z11,z12,_⟩:=z1;obtain⟨z21,z22,_⟩:=z2;simp only[zE,zA,List.map_cons,List.map_nil]at z11 z12 z21 z22 z2a z2b hq0 hq1 s1 s2;rw[g556L0e]at h;simp[zO,q2]at h;simp at l1 l2 m1;simp (disch:=omega) [-getElem?_pos,g556,hci,ah,hb1,hb2,hb3,hb4,z12,z22,z2a,z2b,s1,s2,hq0,hq1,m1,m2,q2,g556L0e,h,l1,l2,f1,f3,z21,hK,hA]
 · rw[if_neg hc];have hci:¬(c.length:Int)=(e.kids.length:Int)+e.aD.length:=by omega
   simp (disch:=omega) [g556,hci,ah]
theorem JL{X:Sh}(u v:Option (List AV)):(X++[u,v])[X.length+1]?=some v:=by rw[List.getElem?_append_right (by omega)];simp
theorem Fq{X:Sh}(u v w:Option (List AV)):(X++[u,v]).set (X.length+1) w=X++[u,w]:=by rw[List.set_append_right _ _ (by omega)];simp
def Ex.Wc(e:Ex)(n:Nat):List AV:=[.pv (vI e.kind),.pv (vI e.pos),.pv (.str e.name),.pv (vI e.num),.aP n 11 e.kids.length true,.aP (n+1) 14 e.aD.length true,.pv (vI e.ty.kind),.pv (.str e.ty.name),.pv (vI e.ty.id),.pv (vI e.ty.home),.pv (.au (e.ty.args.map Ty.pv))]
theorem c556i{e:Ex}(hk:e.kids.length≤1000)(ha:e.aD.length≤1000){c:List Ex}(hc:c.length=e.kids.length+e.aD.length){X:Sh}(hX:aL X) :
   (aC AP).i 556 [.pv e.pv,.pv (.au (c.map Ex.pv))] X []=some ([.agg (e.Wc X.length)],X++[some (aN Ex.cells (c.take e.kids.length)),some (aN Ar.cells (dS e.aD (c.drop e.kids.length)))],[]):=by
 rw[aE (af:=g556) rfl (by simp[g556])];have hci:(c.length:Int)=(e.kids.length:Int)+e.aD.length:=by omega
 have hb1:(e.kids.length:Int)*152≤140737488355328:=by omega
 have hb2:(e.aD.length:Int)*200≤140737488355328:=by omega
 have hb3:(e.kids.length:Int)≤9223372036854775807:=by omega
 have hb4:(e.aD.length:Int)≤9223372036854775807:=by omega
 have z1:=Gr (l:=zE) (n:=e.kids.length);have z2:=Gr (l:=zA) (n:=e.aD.length);have z2a:=y6 (l:=zA) (n:=e.aD.length) (f:=cN) (by rfl);have z2b:=y6 (l:=zA) (n:=e.aD.length) (f:=aK (X.length+2)) (by rfl);have hq0:=(z1.q X hX).norm;have hq1:=(z2.q _ (z1.q X hX)).norm;have hn0:(c.take e.kids.length).length=e.kids.length:=by simp;omega
 have f1:(aN Ex.cells (c.take e.kids.length)).length=e.kids.length*11:=by rw[bo bU,hn0]
 have f2:(aN Ar.cells e.aD).length=e.aD.length*14:=bo f_;have s1:List.drop (e.kids.length*11) (List.replicate e.kids.length (zE.map AV.pv)).flatten=[]:=List.drop_eq_nil_of_le (by rw[z1.len];exact Nat.le_refl _);have s2:List.drop (aN Ar.cells e.aD).length (List.replicate e.aD.length (zA.map AV.pv)).flatten=[]:=List.drop_eq_nil_of_le (by rw[f2,z2.len];exact Nat.le_refl _);have m1:=uP (l:=c.take e.kids.length);have m2:=MD (l:=e.aD)
 have h:=Sk (e:=e) (c:=c) (n0:=e.kids.length) (N:=e.aD.length) (B0:=X.length) (B:=X.length+1) ha hc hk (SA:=fun as=>X++[some (aN Ex.cells (c.take e.kids.length)),some (aN Ar.cells as)]) (fun _=>JL _ _) (fun _ _=>Fq _ _ _)
   (fun as=>hX.app ((aL.one aY).app (aL.one aY))) _ 0 rfl (by omega) e.aD rfl
 simp only[List.take_zero,List.drop_zero,List.nil_append,Nat.add_zero]at h;have l1:=oE (l:=c.take e.kids.length);have l2:=Fa (l:=dS e.aD (c.drop e.kids.length));have f3:(aN Ar.cells (dS e.aD (c.drop e.kids.length))).length=e.aD.length*14:=by rw[bo f_,kH]
 rw[kH]at l2;rw[hn0]at l1;have q2:∀aI ts,a9 aI ts (X++[some (aN Ex.cells (c.take e.kids.length)),some (aN Ar.cells e.aD)])=(X++[some (aN Ex.cells (c.take e.kids.length)),some (aN Ar.cells e.aD)],aI,ts):=(hX.app ((aL.one aY).app (aL.one aY))).norm;have q3:∀aI ts,a9 aI ts (X++[some (aN Ex.cells (c.take e.kids.length)),some (aN Ar.cells (dS e.aD (c.drop e.kids.length)))])=(X++[some (aN Ex.cells (c.take e.kids.length)),some (aN Ar.cells (dS e.aD (c.drop e.kids.length)))],aI,ts):=(hX.app ((aL.one aY).app (aL.one aY))).norm;have qX:=hX.norm;generalize dS e.aD (c.drop e.kids.length)=R at *;generalize aN Ar.cells R=TR at *;generalize aN Ar.cells e.aD=TA at *;have hK:List.take e.kids.length (List.map Ex.pv c)=List.map Ex.pv (List.take e.kids.length c):=List.map_take.symm;have hA:List.take e.aD.length (List.map Ar.pv e.aD)=List.map Ar.pv e.aD:=List.take_of_length_le (by simp);generalize List.take e.kids.length c=K at *;generalize aN Ex.cells K=TK at *;obtain⟨z11,z12,_⟩:=z1;obtain⟨z21,z22,_⟩:=z2;simp only[zE,zA,List.map_cons,List.map_nil]at z11 z12 z21 z22 z2a z2b hq0 hq1 s1 s2;rw[g556L0e]at h;simp[zO,q2]at h;have g1:∀u,(X++[u])[X.length]?=some u:=fun u=>by simp
 have g2:∀u v,(X++[u,v])[X.length]?=some u:=fun u v=>by simp
 have g3:∀u v,(X++[u,v])[X.length+1]?=some v:=JL;have g4:∀u v w,(X++[u,v]).set X.length w=X++[w,v]:=fun u v w=>by simp
 have g5:∀u v w,(X++[u,v]).set (X.length+1) w=X++[u,w]:=Fq;simp at l1 l2 m1;simp (disch:=omega) [-getElem?_pos,g556,hci,ah,hb1,hb2,hb3,hb4,z12,z22,z2a,z2b,s1,s2,hq0,hq1,m1,m2,q2,g556L0e,h,l1,l2,f1,f3,z21,hK,hA,Ex.Wc,qX,q3,g1,g2,g3,g4,g5]
def Ar.p0(a:Ar):Ar:=⟨0,a.cZ,a.vars,a.body⟩
theorem Xk{α β:Type}(l:List α)(f:α→β):(l.attach.map fun x=>f x.1)=l.map f:=by rw[List.map_attach_eq_pmap,List.pmap_eq_map]
def Ex.strip(e:Ex):Ex:=⟨e.kind,0,e.name,e.num,e.kids.attach.map fun x=>x.1.strip,e.aD.attach.map fun a=>⟨0,a.1.cZ,a.1.vars,a.1.body.strip⟩,e.ty⟩
termination_by SizeOf.sizeOf e
decreasing_by
 ·exact Ex.lr (by rw[Ex.ch,List.mem_append];exact .inl x.2)
 ·exact Ex.lr (by rw[Ex.ch,List.mem_append,List.mem_map];exact .inr ⟨a.1,a.2,rfl⟩)
theorem Ex.dG(e:Ex):e.strip=⟨e.kind,0,e.name,e.num,e.kids.map Ex.strip,e.aD.map fun a=>⟨0,a.cZ,a.vars,a.body.strip⟩,e.ty⟩:=by
 have h1:=Xk e.kids Ex.strip;have h2:=Xk e.aD fun a=>(⟨0,a.cZ,a.vars,a.body.strip⟩:Ar)
 rw[Ex.strip,h1,h2]
theorem Cb{g:Ex→Ex}:∀{as:List Ar},dS as (as.map fun a=>g a.body)=as.map fun a=>⟨a.pos,a.cZ,a.vars,g a.body⟩
 |[]=>rfl
 |a::r=>by simp only[List.map_cons,dS,Cb (as:=r)]
theorem M9(e:Ex):(e.ch.map Ex.strip).take e.kids.length=e.kids.map Ex.strip∧(dS e.aD ((e.ch.map Ex.strip).drop e.kids.length)).map Ar.p0=e.aD.map fun a=>⟨0,a.cZ,a.vars,a.body.strip⟩:=by
 have h:e.ch.map Ex.strip=e.kids.map Ex.strip++e.aD.map fun a=>a.body.strip:=by simp[Ex.ch]
 have hl:(e.kids.map Ex.strip).length=e.kids.length:=by simp
 rw[h];constructor
 ·rw[←hl];exact List.take_left
 ·rw[←hl,List.drop_left,Cb,List.map_map];rfl
theorem Vy{e:Ex}{b m:Nat}(hm:m≤2000){SS:List Ex→Sh}(h1:∀c,(SS c)[b]?=some (some (aN Ex.cells c)))(h2:∀c c',(SS c).set b (some (aN Ex.cells c'))=SS c')(h3:∀c,aL (SS c)) :
   ∀(n i:Nat),m-i=n→i≤m→∀c:List Ex,c.length=m→(∀x∈c.drop i,(aC AP).p 546 [x.pv]=some [x.strip.pv]) →
   cl AP g546L0 ⟨[(1,.az 1 0),(2,.az 2 0),(3,.aP b 11 m true),(9,.aP b 11 m true),(10,.pv (vI m)),(11,.pv (vI i))],[(1,e.cl),(2,zO)],SS c,[0,0,0]⟩ =
     some (.exit 0,⟨[(1,.az 1 0),(2,.az 2 0),(3,.aP b 11 m true),(9,.aP b 11 m true),(10,.pv (vI m)),(11,.pv (vI m)),(12,.pv (.bool false))],[(1,e.cl),(2,zO)],SS (c.take i++(c.drop i).map Ex.strip),[0,0,0]⟩)
 |0,i,hn,hi,c,ha,hc=>by
   have:i=m:=by omega
   subst this;have hq:=(h3 c).norm;rw[mm (l:=c) (by omega),List.take_of_length_le (by omega),List.map_nil,List.append_nil];generalize SS c=S at *;rw[g546L0e];simp[g546B0,zO,hq]
 |n+1,i,hn,hi,c,ha,hc=>by
   have hi:i<m:=(by omega);obtain⟨x,hx⟩:=aV (l:=c) (i:=i) (by omega);have k:=hc x (by rw[bj hx];simp)
   have ih:=Vy (e:=e) hm h1 h2 h3 n (i+1) (by omega) (by omega) (c.set i x.strip) (by simpa using ha) (by
     rw[List.drop_set_of_lt (by omega)];intro y hy;exact hc y (by rw[bj hx];exact List.mem_cons_of_mem _ hy))
   have hset:=lq bU hx (y:=x.strip) (o:=0) (vs:=x.strip.cells) (by rw[bU.len];omega) (by
     have h1:=bU.len x;have h2:=bU.len x.strip;simp[h1,h2])
   rw[Ex.mA,Nat.add_zero]at hset;have hget:=nd bU hx (o:=0) (k:=11) (by omega)
   have ht:(((x.cells.drop 0).take 11).map AV.pv)=x.cl:=by
     rw[List.drop_zero,List.take_of_length_le (by rw[bU.len];omega),Ex.mA]
   rw[ht,Nat.add_zero]at hget
   have hfin:c.take i++(c.drop i).map Ex.strip=(c.set i x.strip).take (i+1)++((c.set i x.strip).drop (i+1)).map Ex.strip:=by
     have h1:(c.set i x.strip).take (i+1)=c.take i++[x.strip]:=by
       rw[List.set_eq_take_append_cons_drop,if_pos (by omega),List.take_append,List.take_of_length_le (by simp;omega)];have:i+1-(c.take i).length=1:=by simp;omega
       rw[this];rfl
     rw[h1,List.drop_set_of_lt (by omega),bj hx];simp
   rw[hfin];generalize (c.set i x.strip).take (i+1)++((c.set i x.strip).drop (i+1)).map Ex.strip=R at ih⊢;have hs1:=h1 c;have hs2:=h2 c (c.set i x.strip);have hq:=(h3 c).norm;have hq1:=(h3 (c.set i x.strip)).norm;have hB:bV (aN Ex.cells c)=false:=bI aY;have hlen:(aN Ex.cells c).length=m*11:=by rw[bo bU,ha]
   have hle:i*11+11≤m*11:=(by omega);clear hc h1 h2 h3 hfin;generalize SS (c.set i x.strip)=S1 at *;generalize SS c=S at *;generalize SS R=S2 at *;generalize aN Ex.cells (c.set i x.strip)=T1 at *;generalize aN Ex.cells c=T at *;generalize x.strip=y at *;rw[g546L0e]at ih⊢;simp at k;simp[zO,hq1]at ih hset hget⊢;simp (disch:=omega) [-getElem?_pos,g546B0,hq,hi,hs1,hB,hlen,hle,hget,hset,hs2,k,ah];rw[g546L0e];simp[hq1,ih]
def Ex.S7(e:Ex)(n:Nat):List AV:=[.pv (vI e.kind),.pv (vI 0),.pv (.str e.name),.pv (vI e.num),.aP n 11 e.kids.length true,.aP (n+1) 14 e.aD.length true,.pv (vI e.ty.kind),.pv (.str e.ty.name),.pv (vI e.ty.id),.pv (vI e.ty.home),.pv (.au (e.ty.args.map Ty.pv))]
theorem QO{e:Ex}{B N:Nat}(hN:N≤1000)(he:e.aD.length=N){SA:List Ar→Sh}(h1:∀c,(SA c)[B+1]?=some (some (aN Ar.cells c)))(h2:∀c c',(SA c).set (B+1) (some (aN Ar.cells c'))=SA c')(h3:∀c,aL (SA c)) :
   ∀(n i:Nat),N-i=n→i≤N→∀as:List Ar,as.length=N →
   cl AP g546L1 ⟨[(1,.az 1 0),(2,.az 2 0),(28,.pv (vI N)),(29,.pv (vI i))],[(1,e.S7 B),(2,zO)],SA as,[0,0,0]⟩ =
     some (.exit 2,⟨[(1,.az 1 0),(2,.az 2 0),(28,.pv (vI N)),(29,.pv (vI N)),(30,.pv (.bool false))],[(1,e.S7 B),(2,zO)],SA (as.take i++(as.drop i).map Ar.p0),[0,0,0]⟩)
 |0,i,hn,hi,as,ha=>by
   have:i=N:=by omega
   subst this;have hq:=(h3 as).norm;rw[mm (l:=as) (by omega),List.take_of_length_le (by omega),List.map_nil,List.append_nil];generalize SA as=S at *;rw[g546L1e];simp[g546B1,Ex.S7,zO,hq]
 |n+1,i,hn,hi,as,ha=>by
   have hi:i<N:=(by omega);obtain⟨a,hx⟩:=aV (l:=as) (i:=i) (by omega);have ih:=QO (e:=e) hN he h1 h2 h3 n (i+1) (by omega) (by omega) (as.set i a.p0) (by simpa using ha);have hset:=pM f_ hx (y:=a.p0) (o:=0) (p:=vI 0) (by omega) (by simp[Ar.cells,Ar.p0])
   have hfin:as.take i++(as.drop i).map Ar.p0=(as.set i a.p0).take (i+1)++((as.set i a.p0).drop (i+1)).map Ar.p0:=by
     have h1:(as.set i a.p0).take (i+1)=as.take i++[a.p0]:=by
       rw[List.set_eq_take_append_cons_drop,if_pos (by omega),List.take_append,List.take_of_length_le (by simp;omega)];have:i+1-(as.take i).length=1:=by simp;omega
       rw[this];rfl
     rw[h1,List.drop_set_of_lt (by omega),bj hx];simp
   rw[hfin];generalize (as.set i a.p0).take (i+1)++((as.set i a.p0).drop (i+1)).map Ar.p0=R at ih⊢;have hs1:=h1 as;have hs2:=h2 as (as.set i a.p0);have hq:=(h3 as).norm;have hq1:=(h3 (as.set i a.p0)).norm;have hB:bV (aN Ar.cells as)=false:=bI aY;have hlen:(aN Ar.cells as).length=N*14:=by rw[bo f_,ha]
   have hle:i*14+1≤N*14:=(by omega);have hie:i<e.aD.length:=(by omega);clear h1 h2 h3 hfin;generalize SA (as.set i a.p0)=S1 at *;generalize SA as=S at *;generalize SA R=S2 at *;generalize aN Ar.cells (as.set i a.p0)=T1 at *;generalize aN Ar.cells as=T at *;rw[g546L1e]at ih⊢;simp[Ex.S7,zO,hq1]at ih hset;simp (disch:=omega) [-getElem?_pos,g546B1,Ex.S7,zO,hq,hi,hie,hs1,hB,hlen,hle,hset,hs2,ah];rw[g546L1e];simp[hq1,ih]
theorem c546(e:Ex):e.Ok→(aC AP).p 546 [e.pv]=some [e.strip.pv]:=by
 refine Ex.recC (p:=fun e=>e.Ok→(aC AP).p 546 [e.pv]=some [e.strip.pv]) ?_ e;intro e ih ho;have hk:=ho.k;have ha:=ho.a;obtain⟨k,c1⟩:=c414i ho;have hl:=Ex.dQ (e:=e);have⟨t1,t2⟩:=M9 e;rw[Ex.dG];rw[ae (af:=g546) rfl rfl (by decide)];by_cases hc:e.ch=[]
 · have h0:e.kids=[]∧e.aD=[]:=by have:=hc;simpa[Ex.ch] using this
   have c2:=c556i (e:=e) hk ha (c:=[]) (by simp[h0.1,h0.2]) (X:=[]) nu;rw[hc,if_pos rfl]at c1;simp[Ex.Wc,h0.1,h0.2,uU]at c1 c2;simp[g546,yP,dP,chunk,h0.1,h0.2,c1,g546L0e,g546B0,c2,g546L1e,g546B1]
 · have hh1:∀c,(nn k++[some (aN Ex.cells c)])[k]?=some (some (aN Ex.cells c)):=fun c=>by simp
   have l1:=Vy (e:=e) (b:=k) (m:=e.ch.length) (by omega) (SS:=fun c=>nn k++[some (aN Ex.cells c)]) hh1 (fun c c'=>by simp) (fun c=>(ct k).app (aL.one aY)) _ 0 rfl (by omega) e.ch rfl (fun x hx=>ih x (by simpa using hx) (ho.c x (by simpa using hx)));rw[List.drop_zero,List.take_zero,List.nil_append]at l1;have hX:aL (nn k++[none]):=(ct k).app (ct 1);have hXl:(nn k++[none]).length=k+1:=(by simp);have c2:=c556i (e:=e) hk ha (c:=e.ch.map Ex.strip) (by rw[List.length_map];exact hl) hX;rw[hXl,t1]at c2
   have l2:=QO (e:=e) (B:=k+1) ha rfl (SA:=fun as=>nn k++[none]++[some (aN Ex.cells (e.kids.map Ex.strip)),some (aN Ar.cells as)]) (fun c=>by have:=JL (X:=nn k++[none]) (some (aN Ex.cells (e.kids.map Ex.strip))) (some (aN Ar.cells c));rwa [hXl]at this)
     (fun c c'=>by have:=Fq (X:=nn k++[none]) (some (aN Ex.cells (e.kids.map Ex.strip))) (some (aN Ar.cells c)) (some (aN Ar.cells c'));rwa [hXl]at this) (fun c=>hX.app ((aL.one aY).app (aL.one aY))) _ 0 rfl (by omega) (dS e.aD ((e.ch.map Ex.strip).drop e.kids.length)) kH
   rw[List.drop_zero,List.take_zero,List.nil_append,t2]at l2;have a1:=oE (l:=e.ch.map Ex.strip);have a2:=oE (l:=e.kids.map Ex.strip);have a3:=Fa (l:=e.aD.map fun a=>(⟨0,a.cZ,a.vars,a.body.strip⟩:Ar));have b1:(aN Ex.cells (e.ch.map Ex.strip)).length=e.ch.length*11:=by rw[bo bU,List.length_map]
   have b2:(aN Ex.cells (e.kids.map Ex.strip)).length=e.kids.length*11:=(by rw[bo bU,List.length_map]);have b3:(aN Ar.cells (e.aD.map fun a=>(⟨0,a.cZ,a.vars,a.body.strip⟩:Ar))).length=e.aD.length*14:=(by rw[bo f_,List.length_map]);have s1:(nn k++[some (aN Ex.cells (e.ch.map Ex.strip))]).set k none=nn k++[none]:=(by simp);have s2:=hh1 (e.ch.map Ex.strip);have q1:∀aI ts,a9 aI ts (nn k++[some (aN Ex.cells (e.ch.map Ex.strip))])=(nn k++[some (aN Ex.cells (e.ch.map Ex.strip))],aI,ts):=((ct k).app (aL.one aY)).norm;have q0:∀aI ts,a9 aI ts (nn k++[some (aN Ex.cells e.ch)])=(nn k++[some (aN Ex.cells e.ch)],aI,ts):=((ct k).app (aL.one aY)).norm;have q2:∀aI ts,a9 aI ts (nn k++[none]++[some (aN Ex.cells (e.kids.map Ex.strip)),some (aN Ar.cells (dS e.aD ((e.ch.map Ex.strip).drop e.kids.length)))])=(nn k++[none]++[some (aN Ex.cells (e.kids.map Ex.strip)),some (aN Ar.cells (dS e.aD ((e.ch.map Ex.strip).drop e.kids.length)))],aI,ts):=(hX.app ((aL.one aY).app (aL.one aY))).norm;have h0s:∀n,ej n (nn k++[some (aN Ex.cells e.ch)])=nn k++[some (aN Ex.cells e.ch)]:=((ct k).app (aL.one aY)).shift;have h2s:∀n,ej n (nn k++[none]++[some (aN Ex.cells (e.kids.map Ex.strip)),some (aN Ar.cells (dS e.aD ((e.ch.map Ex.strip).drop e.kids.length)))])=nn k++[none]++[some (aN Ex.cells (e.kids.map Ex.strip)),some (aN Ar.cells (dS e.aD ((e.ch.map Ex.strip).drop e.kids.length)))]:=(hX.app ((aL.one aY).app (aL.one aY))).shift;have h1s:∀n,ej n (nn k++[none])=nn k++[none]:=hX.shift;have h1q:∀aI ts,a9 aI ts (nn k++[none])=(nn k++[none],aI,ts):=hX.norm;have g1:∀u v,(nn k++[none]++[u,v])[k+1]?=some u:=fun u v=>by rw[List.getElem?_append_right (by omega)];simp
   have g2:∀u v,(nn k++[none]++[u,v])[k+1+1]?=some v:=fun u v=>by have:=JL (X:=nn k++[none]) u v;rwa [hXl]at this
   have g1':=g1 (some (aN Ex.cells (e.kids.map Ex.strip))) (some (aN Ar.cells (e.aD.map fun a=>(⟨0,a.cZ,a.vars,a.body.strip⟩:Ar))));have g2':=g2 (some (aN Ex.cells (e.kids.map Ex.strip))) (some (aN Ar.cells (e.aD.map fun a=>(⟨0,a.cZ,a.vars,a.body.strip⟩:Ar))));rw[if_neg hc]at c1;rw[List.length_map]at a1 a2 a3
   try dsimp only at l1 l2
   clear ih hh1 g1 g2 t1 t2 hX;generalize dS e.aD ((e.ch.map Ex.strip).drop e.kids.length)=A0 at *;generalize (e.aD.map fun a=>(⟨0,a.cZ,a.vars,a.body.strip⟩:Ar))=A1 at *;generalize e.kids.map Ex.strip=K at *;generalize e.ch.map Ex.strip=C at *;generalize nn k++[some (aN Ex.cells C)]=S1 at *;generalize nn k++[some (aN Ex.cells e.ch)]=S0 at *;generalize nn k++[none]++[some (aN Ex.cells K),some (aN Ar.cells A1)]=S3 at *;generalize nn k++[none]++[some (aN Ex.cells K),some (aN Ar.cells A0)]=S2 at *;generalize nn k++[none]=X at *;generalize aN Ex.cells C=TC at *;generalize aN Ex.cells K=TK at *;generalize aN Ar.cells A1=TA at *;rw[g546L0e]at l1;rw[g546L1e]at l2;simp at c1 a1 a2 a3;simp[zO,Ex.S7,q0,q2]at l1 l2;simp[Ex.Wc]at c2;simp (config:={ maxSteps:=1000000 }) (disch:=omega) [-getElem?_pos,g546,hc,c1,h0s,h1s,h2s,h1q,q0,q1,q2,g546L0e,l1,s1,s2,a1,b1,c2,g546L1e,l2,g1',g2',a2,a3,b2,b3]
theorem c545{x:Ex}:∀(p:List Int) (e:Ex),p.length<1000000→e.Ok→(aC AP).p 545 [e.pv,.au (p.map vI),x.pv]=some [(Ex.dz x p e).1.pv,.bool (Ex.dz x p e).2]
 |[],e,hp,he=>by
   rw[ae (af:=g545) rfl rfl (by decide)];simp[g545,Ex.dz]
 |q::p,e,hp,he=>by
   have hk:=he.k;have ha:=he.a;have hlen:=Ex.dQ (e:=e);have hz:¬(p.length:Int)+1=0:=(by omega);simp at hp
   have no:(q<0∨e.ch.length≤q)→(aC AP).p 545 [e.pv,.au ((q::p).map vI),x.pv]=some [e.pv,.bool false]:=by
     intro hq;obtain⟨k0,cj⟩:=c414i he;by_cases z:e.ch=[]
     · rw[if_pos z]at cj;have z0:e.ch.length=0:=by rw[z];rfl
       simp at cj;rw[ae (af:=g545) rfl rfl (by decide)];by_cases q0:q<0
       ·simp[g545,hz,cj,q0]
       ·have q1:0≤q:=(by omega);simp[g545,hz,cj,q0,q1]
     · rw[if_neg z]at cj;have hqn:=((ct k0).app (aL.one (aY (f:=Ex.cells) (l:=e.ch)))).norm;have hqs:=((ct k0).app (aL.one (aY (f:=Ex.cells) (l:=e.ch)))).shift
       try simp only[List.nil_append,List.length_nil,Nat.zero_add]at cj
       generalize nn k0++[some (aN Ex.cells e.ch)]=S0 at *;simp at cj;rw[ae (af:=g545) rfl rfl (by decide)];by_cases q0:q<0
       ·simp[g545,hz,cj,q0,hqn,hqs]
       ·have q1:(e.ch.length:Int)≤q:=(by omega);simp[g545,hz,cj,q0,q1,hqn,hqs]
   by_cases hq:0≤q∧q<e.ch.length
   · obtain⟨q0,q1⟩:=hq;obtain⟨i,rfl⟩:∃i:Nat,q=i:=⟨q.toNat,by omega⟩;have hi:i<e.ch.length:=by omega
     obtain⟨c,hc⟩:=aV hi;have hcm:=aR hc;have k1:=c545 (x:=x) p c (by omega) (he.c c hcm);generalize hpr:Ex.dz x p c=yb at k1;obtain⟨y,b⟩:=yb
     have hR:Ex.dz x ((i:Int)::p) e=if b=true then (e.kq (e.ch.set i y),true) else (e,false):=by
       rw[Ex.dz,if_pos ⟨q0,q1⟩,Int.toNat_natCast,hc];simp only[hpr];cases b<;>rfl
     rw[hR];clear hR;have z:¬e.ch=[]:=by intro z;rw[z]at hi;simp at hi
     obtain⟨k0,cj⟩:=c414i he;rw[if_neg z]at cj;have hqn:=((ct k0).app (aL.one (aY (f:=Ex.cells) (l:=e.ch)))).norm;have hqs:=((ct k0).app (aL.one (aY (f:=Ex.cells) (l:=e.ch)))).shift;have hqn1:=((ct k0).app (aL.one (aY (f:=Ex.cells) (l:=e.ch.set i y)))).norm
     try simp only[List.nil_append,List.length_nil,Nat.zero_add]at cj
     have hget:=nd bU hc (o:=0) (k:=11) (by omega)
     have ht:(((c.cells.drop 0).take 11).map AV.pv)=c.cl:=by
       rw[List.drop_zero,List.take_of_length_le (by rw[bU.len];omega),Ex.mA]
     rw[ht,Nat.add_zero]at hget
     have hset:=lq bU hc (y:=y) (o:=0) (vs:=y.cells) (by rw[bU.len];omega) (by
       have h1:=bU.len c;have h2:=bU.len y;simp[h1,h2])
     rw[Ex.mA,Nat.add_zero]at hset;have hB:bV (aN Ex.cells e.ch)=false:=bI aY;have hlen2:(aN Ex.cells e.ch).length=e.ch.length*11:=bo bU;have hle:i*11+11≤e.ch.length*11:=by omega
     have hs1:(nn k0++[some (aN Ex.cells e.ch)])[k0]?=some (some (aN Ex.cells e.ch)):=(by simp);have hs2:(nn k0++[some (aN Ex.cells e.ch)]).set k0 (some (aN Ex.cells (e.ch.set i y)))=nn k0++[some (aN Ex.cells (e.ch.set i y))]:=(by simp);have hs3:(nn k0++[some (aN Ex.cells (e.ch.set i y))])[k0]?=some (some (aN Ex.cells (e.ch.set i y))):=(by simp);have hlst:=oE (l:=e.ch.set i y);have hlen3:(aN Ex.cells (e.ch.set i y)).length=e.ch.length*11:=(by rw[bo bU,List.length_set]);rw[List.length_set]at hlst;have c2:=c556 (e:=e) hk ha (c:=e.ch.set i y);have hsl:=Vs (sz:=1) (l:=(((i:Int)::p).map vI)) (by simp) (oB.head _);cases b with
     |false=>
       rw[if_neg (by simp)];generalize nn k0++[some (aN Ex.cells (e.ch.set i y))]=S1 at *;generalize nn k0++[some (aN Ex.cells e.ch)]=S0 at *;generalize aN Ex.cells (e.ch.set i y)=T1 at *;generalize aN Ex.cells e.ch=T at *;simp at cj k1 hsl;simp[Ex.cl]at hget;rw[ae (af:=g545) rfl rfl (by decide)];simp (disch:=omega) [-getElem?_pos,g545,hz,cj,q1,hi,hqn,hqs,hsl,hs1,hB,hlen2,hle,hget,k1]
     |true=>
       rw[if_pos rfl];generalize e.kq (e.ch.set i y)=Y at *;generalize nn k0++[some (aN Ex.cells (e.ch.set i y))]=S1 at *;generalize nn k0++[some (aN Ex.cells e.ch)]=S0 at *;generalize aN Ex.cells (e.ch.set i y)=T1 at *;generalize aN Ex.cells e.ch=T at *;simp at cj k1 hsl c2 hlst;simp[Ex.cl]at hget hset;rw[ae (af:=g545) rfl rfl (by decide)];simp (disch:=omega) [-getElem?_pos,g545,hz,cj,q1,hi,hqn,hqs,hqn1,hsl,hs1,hs2,hs3,hB,hlen2,hlen3,hle,hget,k1,hset,hlst,c2]
   ·rw[Ex.dz,if_neg hq];exact no (by omega)
def mN(sh:Sh):Prop:=∀cs,some cs∈sh→∀v∈cs,(∃p,v=AV.pv p)∨∃b z n g,v=AV.aP b z n g
theorem aL.Vz{sh:Sh}(h:aL sh):mN sh:=fun cs hc v hv=>.inl (h cs hc v hv)
theorem mN.app{a b:Sh}(h:mN a)(k:mN b):mN (a++b):=by
 intro cs hc;rcases List.mem_append.1 hc with h1|h1
 ·exact h cs h1
 ·exact k cs h1
theorem rX{aI ts:aG}:∀{cs:List AV},(∀v∈cs,(∃p,v=AV.pv p)∨∃b z n g,v=AV.aP b z n g)→bh aI ts cs=(cs,aI,ts)
 |[],_=>rfl
 |v::r,h=>by
   have h1:=h v (by simp);have ih:=rX (aI:=aI) (ts:=ts) (cs:=r) fun x hx=>h x (by simp[hx])
   rcases h1 with⟨p,rfl⟩|⟨b,z,n,g,rfl⟩<;>simp[ih]
theorem mN.norm:∀{sh:Sh},mN sh→∀aI ts,a9 aI ts sh=(sh,aI,ts)
 |[],_,_,_=>rfl
 |none::r,h,aI,ts=>by
   have ih:=mN.norm (sh:=r) (fun cs hc=>h cs (by simp[hc])) aI ts;simp[ih]
 |some cs::r,h,aI,ts=>by
   have ih:=mN.norm (sh:=r) (fun c hc=>h c (by simp[hc])) aI ts;have h1:=rX (aI:=aI) (ts:=ts) (h cs (by simp));simp[ih,h1]
def cR.cells(c:cR):List PV:=[.int .i64 c.pos,.str c.name,.au (c.fields.map Ty.pv)]
def Dt.cells(d:Dt):List PV:=[.int .i64 d.pos,.str d.name,.au (d.params.map .str),.au (d.cons.map cR.pv)]
theorem pX:Row cR.cells 3:=⟨by omega,fun _=>rfl⟩
theorem jG:Row Dt.cells 4:=⟨by omega,fun _=>rfl⟩
theorem PE{l:List cR}:((eA (aN cR.cells l)).bind (dP 3 true l.length)).map PV.au=some (.au (l.map cR.pv)):=nf pX
theorem PF{l:List cR}:((l.map cR.pv).flatMap aX).map AV.pv=aN cR.cells l:=ng pX
theorem M_{l:List Dt}:((eA (aN Dt.cells l)).bind (dP 4 true l.length)).map PV.au=some (.au (l.map Dt.pv)):=nf jG
theorem So{l:List Dt}:((l.map Dt.pv).flatMap aX).map AV.pv=aN Dt.cells l:=ng jG
def cR.p0(c:cR):cR:=⟨0,c.name,c.fields⟩
def Dt.p0(d:Dt):Dt:=⟨0,d.name,d.params,d.cons⟩
def Dt.strip(d:Dt):Dt:=⟨0,d.name,d.params,d.cons.map cR.p0⟩
def Bd.strip(b:Bd):Bd:=⟨0,b.rc,b.name,b.sg,b.sig,b.body.strip⟩
def zP(t:Nat):List AV:=[.own [] t,.own [] (t+1)]
theorem QP{b C M N j:Nat}{V4:AV}(hV:∃b2 n2,V4=.aP b2 20 n2 true){D:List AV}(hD:D[j*4+3]?=some (.aP C 3 N true))(hDm:bV D=false)(hDl:D.length=M*4)(hj:j<M)(hM:M≤1000)(hN:N≤1000)
   {SC:List cR→Sh} (h1:∀c,(SC c)[C]?=some (some (aN cR.cells c))) (h2:∀c c',(SC c).set C (some (aN cR.cells c'))=SC c') (h3:∀c,mN (SC c)) (h4:∀c,(SC c)[b]?=some (some D)) :
   ∀(n k:Nat),N-k=n→k≤N→∀cs:List cR,cs.length=N →
   cl AP g544L1 ⟨[(2,.az 2 0),(3,.aP b 4 M true),(4,V4),(5,.pv (vI j)),(15,.pv (vI M)),(16,.pv (vI j)),(38,.pv (vI N)),(39,.pv (vI k))],[(2,zP 0)],SC cs,[0,0]⟩ =
     some (.exit 2,⟨[(2,.az 2 0),(3,.aP b 4 M true),(4,V4),(5,.pv (vI j)),(15,.pv (vI M)),(16,.pv (vI j)),(38,.pv (vI N)),(39,.pv (vI N)),(40,.pv (.bool false))],[(2,zP 0)],SC (cs.take k++(cs.drop k).map cR.p0),[0,0]⟩)
 |0,k,hn,hk,cs,ha=>by
   have:k=N:=by omega
   subst this;obtain⟨b2,n2,rfl⟩:=hV;have hq:=(h3 cs).norm;rw[mm (l:=cs) (by omega),List.take_of_length_le (by omega),List.map_nil,List.append_nil];generalize SC cs=S at *;rw[g544L1e];simp[g544B1,zP,hq]
 |n+1,k,hn,hk,cs,ha=>by
   have hk:k<N:=(by omega);obtain⟨x,hx⟩:=aV (l:=cs) (i:=k) (by omega);have ih:=QP hV hD hDm hDl hj hM hN h1 h2 h3 h4 n (k+1) (by omega) (by omega) (cs.set k x.p0) (by simpa using ha);obtain⟨b2,n2,rfl⟩:=hV;have hset:=pM pX hx (y:=x.p0) (o:=0) (p:=vI 0) (by omega) (by simp[cR.cells,cR.p0])
   have hfin:cs.take k++(cs.drop k).map cR.p0=(cs.set k x.p0).take (k+1)++((cs.set k x.p0).drop (k+1)).map cR.p0:=by
     have h1:(cs.set k x.p0).take (k+1)=cs.take k++[x.p0]:=by
       rw[List.set_eq_take_append_cons_drop,if_pos (by omega),List.take_append,List.take_of_length_le (by simp;omega)];have:k+1-(cs.take k).length=1:=by simp;omega
       rw[this];rfl
     rw[h1,List.drop_set_of_lt (by omega),bj hx];simp
   rw[hfin];generalize (cs.set k x.p0).take (k+1)++((cs.set k x.p0).drop (k+1)).map cR.p0=R at ih⊢;have hs1:=h1 cs;have hs2:=h2 cs (cs.set k x.p0);have hs4:=h4 cs;have hq:=(h3 cs).norm;have hq1:=(h3 (cs.set k x.p0)).norm;have hB:bV (aN cR.cells cs)=false:=bI aY;have hlen:(aN cR.cells cs).length=N*3:=by rw[bo pX,ha]
   have hle:k*3+1≤N*3:=(by omega);have hle2:j*4+3+1≤M*4:=(by omega);clear h1 h2 h3 h4 hfin;generalize SC (cs.set k x.p0)=S1 at *;generalize SC cs=S at *;generalize SC R=S2 at *;generalize aN cR.cells (cs.set k x.p0)=T1 at *;generalize aN cR.cells cs=T at *;rw[g544L1e]at ih⊢;simp[zP,hq1]at ih hset;simp (disch:=omega) [-getElem?_pos,g544B1,zP,hq,hk,hj,hs1,hs4,hB,hDm,hDl,hD,hlen,hle,hle2,hset,hs2,ah];rw[g544L1e];simp[hq1,ih]
theorem qQ{sh:Sh}:∀{a b:List AV} {p q:List PV},ca sh a=some p→ca sh b=some q→ca sh (a++b)=some (p++q)
 |[],b,p,q,h,k=>by simp[ca]at h;subst h;exact k
 |x::a,b,p,q,h,k=>by
   rw[ca]at h;rw[List.cons_append,ca];split at h
   · rename_i hl;rw[if_pos hl];split at h
     ·rename_i y ys h1 h2;cases h;rw[h1,qQ h2 k];rfl
     ·cases h
   ·cases h
theorem vm{sh:Sh}:∀{l:List PV},(∀p∈l,de p=true)→ca sh (l.map AV.pv)=some l
 |[],_=>rfl
 |p::r,h=>by
   have h1:=h p (by simp);rw[List.map_cons,ca,vm (l:=r) fun x hx=>h x (by simp[hx])];have:aT (.pv p)=true:=by cases p<;>first|rfl|simp[de]at h1
   rw[if_pos this];rfl
theorem sW(c:List Dt):∀p∈c.flatMap Dt.cells,de p=true:=by
 intro p hp;rw[List.mem_flatMap]at hp;obtain⟨d,_,h⟩:=hp;simp[Dt.cells]at h;rcases h with rfl|rfl|rfl|rfl<;>rfl
theorem vn{α:Type}{f:α→List PV}{l:List α}:aN f l=(l.flatMap f).map AV.pv:=by
 rw[aN,List.map_flatMap]
theorem Sp{c:List Dt}{j:Nat}{d:Dt}(hd:c[j]?=some d){v:AV}:aQ (aN Dt.cells (c.set j d.p0)) (j*4+3) [v]=((c.take j).flatMap Dt.cells).map .pv++([.pv (.int .i64 0),.pv (.str d.name),.pv (.au (d.params.map .str)),v]++((c.drop (j+1)).flatMap Dt.cells).map .pv):=by
 have hj:=(List.getElem?_eq_some_iff.1 hd).1;have e:c.set j d.p0=c.take j++([d.p0]++c.drop (j+1)):=by rw[List.set_eq_take_append_cons_drop,if_pos hj];rfl
 have hl:(aN Dt.cells (c.take j)).length=j*4:=by rw[bo jG,List.length_take];congr 1;omega
 rw[e,nc,nc,←vn,←vn];have e1:aN Dt.cells [d.p0]=[.pv (.int .i64 0),.pv (.str d.name),.pv (.au (d.params.map .str))]++[.pv (.au (d.cons.map cR.pv))]:=rfl;rw[e1];generalize aN Dt.cells (c.take j)=A at *;generalize aN Dt.cells (c.drop (j+1))=B at *;unfold aQ;rw[List.take_append,List.take_of_length_le (by omega),hl,Nat.add_sub_cancel_left,List.drop_append,List.drop_eq_nil_of_le (by simp;omega),hl];have:j*4+3+[v].length-j*4=4:=by simp;omega
 rw[this];simp
theorem Sq{c:List Dt}{j:Nat}{d:Dt}(hd:c[j]?=some d):(c.take j).flatMap Dt.cells++([.int .i64 0,.str d.name,.au (d.params.map .str),.au ((d.cons.map cR.p0).map cR.pv)]++(c.drop (j+1)).flatMap Dt.cells)=(c.set j d.strip).flatMap Dt.cells:=by
 have hj:=(List.getElem?_eq_some_iff.1 hd).1;have e:c.set j d.strip=c.take j++([d.strip]++c.drop (j+1)):=by rw[List.set_eq_take_append_cons_drop,if_pos hj];rfl
 rw[e,List.flatMap_append,List.flatMap_append];rfl
structure SH(SS:List Dt→Sh)(b b2 L:Nat)(TB:List AV):Prop where
 g:∀c,(SS c)[b]?=some (some (aN Dt.cells c))
 s:∀c c',(SS c).set b (some (aN Dt.cells c'))=SS c'
 q:∀c,aL (SS c)
 h:∀c,(SS c)[b2]?=some (some TB)
 e:∀c c',(SS c).set b none=(SS c').set b none
 l:∀c,(SS c).length=L
 ne:b≠b2
theorem xm{S:Sh}(h:aL S)(b:Nat):aL (S.set b none):=by
 intro cs hc v hv;have:=List.mem_or_eq_of_mem_set hc;rcases this with h1|h1
 ·exact h cs h1 v hv
 ·cases h1
theorem SH.next{SS:List Dt→Sh}{b b2 L:Nat}{TB:List AV}(H:SH SS b b2 L TB):SH (fun c=>(SS []).set b none++[none,some (aN Dt.cells c)]) (L+1) b2 (L+2) TB:=by
 have hl:((SS []).set b none).length=L:=by rw[List.length_set];exact H.l _
 have hb2:b2<L:=by have:=(List.getElem?_eq_some_iff.1 (H.h [])).1;rw[H.l]at this;exact this
 refine⟨fun c=>?_,fun c c'=>?_,fun c=>?_,fun c=>?_,fun c c'=>?_,fun c=>?_,by omega⟩
 ·have:=JL (X:=(SS []).set b none) none (some (aN Dt.cells c));rwa [hl]at this
 ·have:=Fq (X:=(SS []).set b none) none (some (aN Dt.cells c)) (some (aN Dt.cells c'));rwa [hl]at this
 ·exact (xm (H.q []) b).app ((ct 1).app (aL.one aY))
 ·rw[List.getElem?_append_left (by omega),List.getElem?_set,if_neg H.ne];exact H.h []
 ·have h1:=Fq (X:=(SS []).set b none) none (some (aN Dt.cells c)) none;have h2:=Fq (X:=(SS []).set b none) none (some (aN Dt.cells c')) none;rw[hl]at h1 h2;rw[h1,h2]
 ·simp[hl]
def jJ(c:List Dt)(j:Nat)(d:Dt)(v:AV):List AV:=((c.take j).flatMap Dt.cells).map AV.pv++([AV.pv (.int .i64 0),AV.pv (.str d.name),AV.pv (.au (d.params.map .str)),v]++((c.drop (j+1)).flatMap Dt.cells).map AV.pv)
theorem Na{c:List Dt}{j:Nat}(hj:j<c.length):((c.take j).flatMap Dt.cells).length=j*4:=by
 have:=bo jG (l:=c.take j);rw[vn,List.length_map,List.length_take]at this;rw[this];congr 1;omega
theorem Nb{c:List Dt}{j:Nat}(hj:j<c.length){d:Dt}{v:AV}:(jJ c j d v)[j*4+3]?=some v:=by
 have hl:=Na hj;unfold jJ;rw[List.getElem?_append_right (by simp[hl])];simp[hl]
theorem PG{c:List Dt}{j:Nat}{d:Dt}{v:AV}:bV (jJ c j d v)=false:=by
 unfold jJ;cases (c.take j).flatMap Dt.cells with
 |nil=>rfl
 |cons x r=>rfl
theorem Nc{c:List Dt}{j:Nat}(hj:j<c.length){d:Dt}{v:AV}:(jJ c j d v).length=c.length*4:=by
 have hl:=Na hj;have h2:=bo jG (l:=c.drop (j+1));rw[vn,List.length_map,List.length_drop]at h2;unfold jJ;rw[List.length_append,List.length_append,List.length_map,List.length_map,hl,h2];simp only[List.length_cons,List.length_nil];omega
theorem Cc{c:List Dt}{j:Nat}{d:Dt}{v:AV}{f:AV→Bool}(h:∀p,de p=true→f (.pv p)=true)(hv:f v=true):(jJ c j d v).all f=true:=by
 have h1:=sW (c.take j);have h2:=sW (c.drop (j+1));unfold jJ;rw[List.all_append,List.all_append,Bool.and_eq_true,Bool.and_eq_true];refine⟨?_,?_,?_⟩
 ·rw[List.all_map,List.all_eq_true];exact fun p hp=>h p (h1 p hp)
 ·simp[h (.int .i64 0) rfl,h (.str d.name) rfl,h (.au (d.params.map .str)) rfl,hv]
 ·rw[List.all_map,List.all_eq_true];exact fun p hp=>h p (h2 p hp)
def VA:AV→List Nat
 | .aP b _ _ _=>[b]
 |_=>[]
theorem uh(cs:List AV):eB (.agg cs)=cs.flatMap VA:=by
 show cs.flatMap _=_;congr 1;all_goals (try (funext x;cases x<;>rfl))
theorem sH(l:List PV):(l.map AV.pv).flatMap VA=[]:=by
 induction l with
 |nil=>rfl
 |cons a r ih=>rw[List.map_cons,List.flatMap_cons,ih];rfl
theorem JM{c:List Dt}{j:Nat}{d:Dt}{L z n:Nat}{g:Bool}:eB (.agg (jJ c j d (.aP L z n g)))=[L]:=by
 rw[uh];unfold jJ;rw[List.flatMap_append,List.flatMap_append,sH,sH]
 try rfl
theorem Nd{c:List Dt}{j:Nat}{d:Dt}(hd:c[j]?=some d){sh:Sh}{L:Nat}(hs:sh[L]?=some (some (aN cR.cells (d.cons.map cR.p0)))) :
   ca sh (jJ c j d (.aP L 3 d.cons.length true))=some ((c.set j d.strip).flatMap Dt.cells):=by
 rw[←Sq hd];unfold jJ;refine qQ (vm (sW _)) (qQ ?_ (vm (sW _)));have hl:=PE (l:=d.cons.map cR.p0);have hn:(aN cR.cells (d.cons.map cR.p0)).length=d.cons.length*3:=by rw[bo pX,List.length_map]
 rw[List.length_map]at hl;generalize aN cR.cells (d.cons.map cR.p0)=T at *;simp only[ca,dJ,hs];rw[if_pos hn,hl];rfl
theorem QQ{M b2 n2:Nat}(hM:M≤1000){TB:List AV}:∀(n j:Nat),M-j=n→j≤M→∀(c:List Dt) (SS:List Dt→Sh) (b L:Nat),c.length=M→(∀d∈c,d.cons≠[]∧d.cons.length≤1000)→SH SS b b2 L TB →
   ∃S' b',aL S'∧S'[b']?=some (some (aN Dt.cells (c.take j++(c.drop j).map Dt.strip)))∧S'[b2]?=some (some TB)∧b'≠b2 ∧
   cl AP g544L0 ⟨[(2,.az 2 0),(3,.aP b 4 M true),(4,.aP b2 20 n2 true),(15,.pv (vI M)),(16,.pv (vI j))],[(2,zP 0)],SS c,[0,0]⟩ =
     some (.exit 0,⟨[(2,.az 2 0),(3,.aP b' 4 M true),(4,.aP b2 20 n2 true),(15,.pv (vI M)),(16,.pv (vI M)),(17,.pv (.bool false))],[(2,zP 0)],S',[0,0]⟩)
 |0,j,hn,hj,c,SS,b,L,ha,hc,H=>by
   have:j=M:=by omega
   subst this;have hq:=(H.q c).norm;refine⟨SS c,b,H.q c,?_,H.h c,H.ne,?_⟩
   ·rw[mm (l:=c) (by omega),List.take_of_length_le (by omega),List.map_nil,List.append_nil];exact H.g c
   generalize SS c=S at *;rw[g544L0e];simp[g544B0,zP,hq]
 |n+1,j,hn,hj,c,SS,b,L,ha,hc,H=>by
   have hj:j<M:=(by omega);obtain⟨d,hd⟩:=aV (l:=c) (i:=j) (by omega);obtain⟨hne,hcl⟩:=hc d (aR hd);have hd1:(c.set j d.p0)[j]?=some d.p0:=(by rw[List.getElem?_set_self (by omega)]);have hl:((SS []).set b none).length=L:=(by rw[List.length_set];exact H.l _);have hbL:b<L:=by have:=(List.getElem?_eq_some_iff.1 (H.g [])).1;rw[H.l]at this;exact this
   obtain⟨S',b',r1,r2,r3,r4,ih⟩:=QQ (b2:=b2) (n2:=n2) hM (TB:=TB) n (j+1) (by omega) (by omega) (c.set j d.strip) _ (L+1) (L+2) (by simpa using ha) (by
     intro x hx;rcases List.mem_or_eq_of_mem_set hx with h|h
     ·exact hc x h
     ·subst h;exact⟨by simp[Dt.strip,hne],by simp[Dt.strip];exact hcl⟩) H.next
   have hfin:c.take j++(c.drop j).map Dt.strip=(c.set j d.strip).take (j+1)++((c.set j d.strip).drop (j+1)).map Dt.strip:=by
     have h1:(c.set j d.strip).take (j+1)=c.take j++[d.strip]:=by
       rw[List.set_eq_take_append_cons_drop,if_pos (by omega),List.take_append,List.take_of_length_le (by simp;omega)];have:j+1-(c.take j).length=1:=by simp;omega
       rw[this];rfl
     rw[h1,List.drop_set_of_lt (by omega),bj hd];simp
   rw[hfin];refine⟨S',b',r1,r2,r3,r4,?_⟩;clear r1 r2 r3 r4 hfin hc;have g1:=H.g c;have s1:=H.s c (c.set j d.p0);have g2:=H.g (c.set j d.p0);have l2:=H.l (c.set j d.p0);have q2:=(H.q c).norm;have e2:=H.e (c.set j d.p0) [];have hset:=pM jG hd (y:=d.p0) (o:=0) (p:=vI 0) (by omega) (by simp[Dt.cells,Dt.p0]);have hgc:=O0 jG hd1 (o:=3) (p:=.au (d.cons.map cR.pv)) (by omega) rfl;have hB:bV (aN Dt.cells c)=false:=bI aY;have hB1:bV (aN Dt.cells (c.set j d.p0))=false:=bI aY;have hlen:(aN Dt.cells c).length=M*4:=by rw[bo jG,ha]
   have hlen1:(aN Dt.cells (c.set j d.p0)).length=M*4:=(by rw[bo jG,List.length_set,ha]);have hle:j*4+1≤M*4:=(by omega);have hle3:j*4+3+1≤M*4:=(by omega);have hm:=PF (l:=d.cons);have hjc:j<c.length:=(by omega);have hmid:aQ (aN Dt.cells (c.set j d.p0)) (j*4+3) [.aP L 3 d.cons.length true]=jJ c j d (.aP L 3 d.cons.length true):=Sp hd;have hD:=Nb hjc (d:=d) (v:=.aP L 3 d.cons.length true);have hDm:=PG (c:=c) (j:=j) (d:=d) (v:=.aP L 3 d.cons.length true);have hDl:=Nc hjc (d:=d) (v:=.aP L 3 d.cons.length true);rw[ha]at hDl;have hA:=JM (c:=c) (j:=j) (d:=d) (L:=L) (z:=3) (n:=d.cons.length) (g:=true);have hDa:=Cc (c:=c) (j:=j) (d:=d) (v:=.aP L 3 d.cons.length true) (f:=cN) (fun p hp=>by cases p<;>first|rfl|simp[de]at hp) rfl;have hDr:=Cc (c:=c) (j:=j) (d:=d) (v:=.aP L 3 d.cons.length true) (f:=aK (L+1+1)) (fun p hp=>rfl) (decide_eq_true (by omega));have hF:=Nd hd (sh:=(SS []).set b none++[some (aN cR.cells (d.cons.map cR.p0)),some (jJ c j d (.aP L 3 d.cons.length true))]) (L:=L) (by rw[List.getElem?_append_right (by omega),hl];simp);have hff:=vn (f:=Dt.cells) (l:=c.set j d.strip);have hne0:d.cons.isEmpty=false:=by cases hq:d.cons with|nil=>exact absurd hq hne|cons _ _=>rfl
   have hb48:d.cons.length*48≤140737488355328:=(by omega);have hqP:aL ((SS []).set b none):=xm (H.q []) b;have f4:∀u,(SS (c.set j d.p0)++[u])[b]?=some (some (aN Dt.cells (c.set j d.p0))):=fun u=>by rw[List.getElem?_append_left (by omega)];exact g2
   have f5:∀u,(SS (c.set j d.p0)++[u]).set b none=(SS []).set b none++[u]:=fun u=>by rw[List.set_append_left _ _ (by omega),e2]
   have f7:∀u v,((SS []).set b none++[u,v])[L+1]?=some v:=fun u v=>by have:=JL (X:=(SS []).set b none) u v;rwa [hl]at this
   have f8:∀u v w,((SS []).set b none++[u,v]).set (L+1) w=(SS []).set b none++[u,w]:=fun u v w=>by have:=Fq (X:=(SS []).set b none) u v w;rwa [hl]at this
   have f9:∀u v,((SS []).set b none++[u,v])[L]?=some u:=fun u v=>by rw[List.getElem?_append_right (by omega),hl];simp
   have f10:∀u v w,((SS []).set b none++[u,v]).set L w=(SS []).set b none++[w,v]:=fun u v w=>by rw[List.set_append_right _ _ (by omega),hl];simp
   have hcm:∀cs:List cR,mN ((SS []).set b none++[some (aN cR.cells cs),some (jJ c j d (.aP L 3 d.cons.length true))]):=fun cs=>hqP.Vz.app fun x hx v hv=>by
     simp only[List.mem_cons,Option.some.injEq,List.not_mem_nil,or_false]at hx;rcases hx with rfl|rfl
     ·exact .inl (aY v hv)
     ·unfold jJ at hv;simp only[List.mem_append,List.mem_cons,List.not_mem_nil,or_false,List.mem_map]at hv;rcases hv with⟨p,_,rfl⟩|(rfl|rfl|rfl|rfl)|⟨p,_,rfl⟩<;>first|exact .inl ⟨_,rfl⟩|exact .inr ⟨_,_,_,_,rfl⟩
   have l1:=QP (b:=L+1) (C:=L) (M:=M) (N:=d.cons.length) (j:=j) (V4:=.aP b2 20 n2 true) ⟨_,_,rfl⟩ hD hDm hDl hj hM hcl (SC:=fun cs=>(SS []).set b none++[some (aN cR.cells cs),some (jJ c j d (.aP L 3 d.cons.length true))])
     (fun _=>f9 _ _) (fun _ _=>f10 _ _ _) hcm (fun _=>f7 _ _) _ 0 rfl (by omega) d.cons rfl
   rw[List.take_zero,List.drop_zero,List.nil_append]at l1
   have hk:cA ((SS []).set b none++[some (aN cR.cells (d.cons.map cR.p0)),some (jJ c j d (.aP L 3 d.cons.length true))]) [.agg (jJ c j d (.aP L 3 d.cons.length true))]=(SS []).set b none++[none,some (jJ c j d (.aP L 3 d.cons.length true))]:=by
     unfold cA;rw[List.flatMap_cons,hA];exact f10 _ _ _
   have hnc:(eB (.agg (jJ c j d (.aP L 3 d.cons.length true)))).contains (L+1)=false:=(by rw[hA];simp);have c1:=(hcm d.cons).norm;have c2:=(hcm (d.cons.map cR.p0)).norm;have c3:∀aI ts,a9 aI ts ((SS []).set b none++[none,some (aN Dt.cells (c.set j d.strip))])=((SS []).set b none++[none,some (aN Dt.cells (c.set j d.strip))],aI,ts):=(hqP.app ((ct 1).app (aL.one aY))).norm;rw[hff]at c3 ih
   try dsimp only at l1 ih
   clear hcm H hA hff;generalize (SS []).set b none=P at *;generalize SS (c.set j d.p0)=S1 at *;generalize SS c=S at *;generalize (c.set j d.strip).flatMap Dt.cells=E2 at *;generalize aN cR.cells (d.cons.map cR.p0)=TC1 at *;generalize aN cR.cells d.cons=TC at *;generalize jJ c j d (.aP L 3 d.cons.length true)=D at *;generalize aN Dt.cells (c.set j d.p0)=T1 at *;generalize aN Dt.cells c=T at *;rw[g544L0e]at ih⊢;rw[g544L1e]at l1;simp[zP,c1,c3]at l1 ih hset;simp at hm hk hnc hmid;have hLL:L<L+1+1:=by omega
   simp (config:={ maxSteps:=1000000 }) (disch:=omega) [-getElem?_pos,g544B0,zP,q2,hj,g1,hB,hlen,hle,hset,s1,g2,hB1,hlen1,hle3,hgc,hne,hne0,hb48,hm,l2,f4,f5,f7,f8,hLL,hmid,hDa,hDr,hDm,hDl,hD,ah,g544L1e,c1,l1,hk,hnc,hF,c2,c3];rw[if_pos hnc];simp (disch:=omega) [ah,c3];rw[g544L0e];simp[c3,ih]
theorem pY{e:Ex}:e.Ok→e.strip.Ok:=by
 refine Ex.recC (p:=fun e=>e.Ok→e.strip.Ok) ?_ e;intro e ih ho;rw[Ex.dG];refine .mk (by simp;exact ho.k) (by simp;exact ho.a) ?_ ho.t ?_
 ·intro a ha;rw[List.mem_map]at ha;obtain⟨x,hx,rfl⟩:=ha;exact ho.v x hx
 · intro x hx;simp only[Ex.ch,List.mem_append,List.mem_map,List.map_map]at hx;rcases hx with⟨y,hy,rfl⟩|⟨a,ha,rfl⟩
   · have:y∈e.ch:=by rw[Ex.ch,List.mem_append];exact .inl hy
     exact ih y this (ho.c y this)
   · have:a.body∈e.ch:=by rw[Ex.ch,List.mem_append,List.mem_map];exact .inr ⟨a,ha,rfl⟩
     exact ih a.body this (ho.c _ this)
def Bd.p0(b:Bd):Bd:=⟨0,b.rc,b.name,b.sg,b.sig,b.body⟩
def XB(V3:AV)(z:List AV)(T:aG):Prop:=(∃b M,V3=.aP b 4 M true∧z=zP 0∧T=[0,0])∨(V3=.own [] 0∧z=zP 1∧T=[0,0,0])
theorem Nf{V3:AV}{z:List AV}{T:aG}(hV:XB V3 z T){b2 N:Nat}(hN:N≤1000){SS:List Bd→Sh}(h1:∀c,(SS c)[b2]?=some (some (aN Bd.cells c)))(h2:∀c c',(SS c).set b2 (some (aN Bd.cells c'))=SS c')(h3:∀c,aL (SS c)) :
   ∀(n i:Nat),N-i=n→i≤N→∀c:List Bd,c.length=N→(∀b∈c,b.body.Ok) →
   cl AP g544L2 ⟨[(2,.az 2 0),(3,V3),(4,.aP b2 20 N true),(53,.pv (vI N)),(54,.pv (vI i))],[(2,z)],SS c,T⟩ =
     some (.exit 4,⟨[(2,.az 2 0),(3,V3),(4,.aP b2 20 N true),(53,.pv (vI N)),(54,.pv (vI N)),(55,.pv (.bool false))],[(2,z)],SS (c.take i++(c.drop i).map Bd.strip),T⟩)
 |0,i,hn,hi,c,ha,ho=>by
   have:i=N:=by omega
   subst this;have hq:=(h3 c).norm;rw[mm (l:=c) (by omega),List.take_of_length_le (by omega),List.map_nil,List.append_nil];generalize SS c=S at *;rw[g544L2e];rcases hV with⟨b,M,rfl,rfl,rfl⟩|⟨rfl,rfl,rfl⟩<;>simp[g544B2,zP,hq]
 |n+1,i,hn,hi,c,ha,ho=>by
   have hi:i<N:=(by omega);obtain⟨b,hx⟩:=aV (l:=c) (i:=i) (by omega);have k:=c546 b.body (ho b (aR hx))
   have ih:=Nf hV hN h1 h2 h3 n (i+1) (by omega) (by omega) (c.set i b.strip) (by simpa using ha) (by
     intro y hy;rcases List.mem_or_eq_of_mem_set hy with h|h
     ·exact ho y h
     ·subst h;exact pY (ho b (aR hx)))
   have hx1:(c.set i b.p0)[i]?=some b.p0:=(by rw[List.getElem?_set_self (by omega)]);have hset:=pM ga hx (y:=b.p0) (o:=0) (p:=vI 0) (by omega) (by simp[Bd.cells,Bd.p0]);have hget:=nd ga hx1 (o:=9) (k:=11) (by omega)
   have ht:((((b.p0).cells.drop 9).take 11).map AV.pv)=b.body.cl:=by
     have:(b.p0).cells.drop 9=b.body.cells:=rfl;rw[this,List.take_of_length_le (by rw[bU.len];omega),Ex.mA]
   rw[ht]at hget
   have hset2:=lq ga hx1 (y:=b.strip) (o:=9) (vs:=b.body.strip.cells) (by rw[bU.len];omega) (by
     have h1:=bU.len b.body;have h2:=bU.len b.body.strip;rw[h2];have e1:(b.p0).cells.take 9=[vI 0,.bool b.rc,.str b.name,.bool b.sg,vI b.sig.kind,.str b.sig.name,vI b.sig.id,vI b.sig.home,.au (b.sig.args.map Ty.pv)]:=rfl;have e2:(b.p0).cells.drop (9+11)=[]:=List.drop_eq_nil_of_le (by rw[ga.len];omega);rw[e1,e2,List.append_nil];rfl)
   rw[Ex.mA,List.set_set]at hset2
   have hfin:c.take i++(c.drop i).map Bd.strip=(c.set i b.strip).take (i+1)++((c.set i b.strip).drop (i+1)).map Bd.strip:=by
     have h1:(c.set i b.strip).take (i+1)=c.take i++[b.strip]:=by
       rw[List.set_eq_take_append_cons_drop,if_pos (by omega),List.take_append,List.take_of_length_le (by simp;omega)];have:i+1-(c.take i).length=1:=by simp;omega
       rw[this];rfl
     rw[h1,List.drop_set_of_lt (by omega),bj hx];simp
   rw[hfin];generalize (c.set i b.strip).take (i+1)++((c.set i b.strip).drop (i+1)).map Bd.strip=R at ih⊢;have hs1:=h1 c;have hs2:=h2 c (c.set i b.p0);have hs3:=h1 (c.set i b.p0);have hs4:=h2 (c.set i b.p0) (c.set i b.strip);have hq:=(h3 c).norm;have hq1:=(h3 (c.set i b.strip)).norm;have hB:bV (aN Bd.cells c)=false:=bI aY;have hB1:bV (aN Bd.cells (c.set i b.p0))=false:=bI aY;have hlen:(aN Bd.cells c).length=N*20:=by rw[bo ga,ha]
   have hlen1:(aN Bd.cells (c.set i b.p0)).length=N*20:=(by rw[bo ga,List.length_set,ha]);have hle:i*20+1≤N*20:=(by omega);have hle2:i*20+9+11≤N*20:=(by omega);clear h1 h2 h3 hfin;generalize SS (c.set i b.strip)=S2 at *;generalize SS (c.set i b.p0)=S1 at *;generalize SS c=S at *;generalize SS R=S3 at *;generalize aN Bd.cells (c.set i b.strip)=T2 at *;generalize aN Bd.cells (c.set i b.p0)=T1 at *;generalize aN Bd.cells c=T0 at *;generalize b.body.strip=y at *;rw[g544L2e]at ih⊢;simp at k hset;simp[Ex.cl]at hget hset2
   rcases hV with⟨b,M,rfl,rfl,rfl⟩|⟨rfl,rfl,rfl⟩<;>simp[zP,hq1]at ih⊢ <;>
     simp (disch:=omega) [-getElem?_pos,g544B2,hq,hi,hs1,hs2,hs3,hs4,hB,hB1,hlen,hlen1,hle,hle2,hset,hget,hset2,k,ah] <;>
     rw[g544L2e]<;>simp[hq1,ih]
theorem iv(e:Ex):e.strip.ch=e.ch.map Ex.strip:=by
 rw[Ex.dG];simp only[Ex.ch,List.map_append,List.map_map,Function.comp_def]
theorem db(e:Ex):e.strip.kind=e.kind:=by rw[Ex.dG]
theorem ew(e:Ex):e.strip.hl=e.hl:=by
 refine Ex.recC (p:=fun e=>e.strip.hl=e.hl) ?_ e;intro e ih;rw[Ex.nM,Ex.nM e,db,iv,List.map_map];have:e.ch.map (Ex.hl ∘ Ex.strip)=e.ch.map Ex.hl:=List.map_congr_left fun x hx=>ih x hx
 rw[this]
theorem iM(e:Ex):e.strip.sz=e.sz:=by
 refine Ex.recC (p:=fun e=>e.strip.sz=e.sz) ?_ e;intro e ih;rw[Ex.kF,Ex.kF e,iv,List.map_map];have:e.ch.map (Ex.sz ∘ Ex.strip)=e.ch.map Ex.sz:=List.map_congr_left fun x hx=>ih x hx
 rw[this]
theorem qR:∀{l:List (List (List Int))} {s i:Nat} {c:List (List Int)},l[i]?=some c→lW s l=lW s (l.take i)++(c.map (fun p=>((s+i:Nat):Int)::p)++lW (s+i+1) (l.drop (i+1)))
 |[],_,_,_,h=>by simp at h
 |a::r,s,0,c,h=>by
   simp at h;subst h;simp[lW]
 |a::r,s,i+1,c,h=>by
   have ih:=qR (l:=r) (s:=s+1) (i:=i) (c:=c) (by simpa using h);have e1:s+1+i=s+(i+1):=(by omega);rw[e1]at ih;simp only[lW,List.take_succ_cons,List.drop_succ_cons];rw[ih,List.append_assoc]
theorem Ng:∀{l:List (List (List Int))} {s k:Nat} {p:List Int},(lW s l)[k]?=some p→∃(i:Nat) (c:List (List Int)) (k':Nat) (q:List Int),l[i]?=some c∧c[k']?=some q∧p=((s+i:Nat):Int)::q∧k=(lW s (l.take i)).length+k'
 |[],_,_,_,h=>by simp[lW]at h
 |a::r,s,k,p,h=>by
   simp only[lW]at h;rw[List.getElem?_append]at h;split at h
   ·rename_i hlt;rw[List.getElem?_map,Option.map_eq_some_iff]at h;obtain⟨q,hq,rfl⟩:=h;exact⟨0,a,k,q,rfl,hq,rfl,by simp[lW]⟩
   · rename_i hge;simp only[List.length_map]at hge h;obtain⟨i,c,k',q,h1,h2,h3,h4⟩:=Ng h;refine⟨i+1,c,k',q,by simpa using h1,h2,?_,?_⟩
     ·rw[h3];congr 2;omega
     ·simp only[List.take_succ_cons,lW,List.length_append,List.length_map];omega
theorem Nh{α:Type}{A M B:List α}{k:Nat}(h:k<M.length):(A++(M++B)).take (A.length+k)=A++M.take k:=by
 rw[List.take_append,List.take_of_length_le (l:=A) (by omega),Nat.add_sub_cancel_left,List.take_append_of_le_length (by omega)]
theorem Ni{α:Type}{A M B:List α}{k:Nat}(h:k<M.length):(A++(M++B)).drop (A.length+k+1)=M.drop (k+1)++B:=by
 rw[List.drop_append,List.drop_eq_nil_of_le (as:=A) (by omega),List.nil_append,show A.length+k+1-A.length=k+1 by omega,List.drop_append_of_le_length (by omega)]
theorem Fs(x:Ex)(e:Ex):∀(k:Nat) (p:List Int),e.hl[k]?=some p→(Ex.dz x p e).2=true∧(Ex.dz x p e).1.hl=e.hl.take k++(x.hl.map (fun q=>p++q)++e.hl.drop (k+1)):=by
 refine Ex.recC (p:=fun e=>∀(k:Nat) (p:List Int),e.hl[k]?=some p→(Ex.dz x p e).2=true∧(Ex.dz x p e).1.hl=e.hl.take k++(x.hl.map (fun q=>p++q)++e.hl.drop (k+1))) ?_ e;intro e ih k p h;have hh:=Ex.nM e;by_cases hk:e.kind=10
 · rw[if_pos hk]at hh;rw[hh]at h⊢;cases k with
   |zero=>
     simp at h;subst h;simp[Ex.dz]
   |succ k=>simp at h
 · rw[if_neg hk]at hh;rw[hh]at h;obtain⟨i,c,k',q,h1,h2,h3,h4⟩:=Ng h;rw[Nat.zero_add]at h3;subst h3;rw[List.getElem?_map,Option.map_eq_some_iff]at h1;obtain⟨y,hy,rfl⟩:=h1;have hi:=(List.getElem?_eq_some_iff.1 hy).1;obtain⟨g1,g2⟩:=ih y (aR hy) k' q h2
   have hR:Ex.dz x ((i:Int)::q) e=(e.kq (e.ch.set i (Ex.dz x q y).1),true):=by
     rw[Ex.dz,if_pos ⟨by omega,by omega⟩,Int.toNat_natCast,hy];simp only;cases hp:Ex.dz x q y with
     |mk z b=>
       rw[hp]at g1;simp only at g1;subst g1;rfl
   rw[hR];refine⟨rfl,?_⟩;have hlc:(e.ch.set i (Ex.dz x q y).1).length=e.kids.length+e.aD.length:=by rw[List.length_set,Ex.dQ]
   have hwc:=uZ hlc;have hwk:(e.kq (e.ch.set i (Ex.dz x q y).1)).kind=e.kind:=(by rw[Ex.kq,if_pos hlc]);rw[Ex.nM (e.kq _),hwk,if_neg hk,hwc,hh];have s1:=qR (l:=e.ch.map Ex.hl) (s:=0) (i:=i) (c:=y.hl) (by rw[List.getElem?_map,hy];rfl);have s2:=qR (l:=(e.ch.set i (Ex.dz x q y).1).map Ex.hl) (s:=0) (i:=i) (c:=(Ex.dz x q y).1.hl) (by rw[List.getElem?_map,List.getElem?_set_self hi];rfl);rw[Nat.zero_add]at s1 s2;have t1:((e.ch.set i (Ex.dz x q y).1).map Ex.hl).take i=(e.ch.map Ex.hl).take i:=(by rw[List.map_set,List.take_set_of_le (Nat.le_refl i)]);have t2:((e.ch.set i (Ex.dz x q y).1).map Ex.hl).drop (i+1)=(e.ch.map Ex.hl).drop (i+1):=(by rw[List.map_set,List.drop_set_of_lt (by omega)]);rw[t1,t2,g2]at s2;rw[s2,s1,h4];have hk':=(List.getElem?_eq_some_iff.1 h2).1;generalize lW 0 ((e.ch.map Ex.hl).take i)=A at *;generalize lW (i+1) ((e.ch.map Ex.hl).drop (i+1))=B at *;rw[Nh (by rw[List.length_map];omega),Ni (by rw[List.length_map];omega)];simp only[List.map_append,List.map_map,List.map_take,List.map_drop,List.append_assoc,Function.comp_def,List.cons_append]
theorem Xl{ch:List Ty}(hN:ch.length≤1000000000000000000)(hB:∀x∈ch,x.dp≤100000000)(ih:∀x∈ch,(aC AP).p 51 [x.pv]=some [vI x.dp]):∀(n i:Nat),ch.length-i=n→i≤ch.length→∀m:Nat,m≤100000001 →
   cl AP g51L0 ⟨[(3,.pv (vI m)),(7,.pv (.au (ch.map Ty.pv))),(8,.pv (vI ch.length)),(9,.pv (vI i))],[],[],[]⟩ =
     some (.exit 0,⟨[(3,.pv (vI (zi m ((ch.drop i).map Ty.dp):Nat))),(7,.pv (.au (ch.map Ty.pv))),(8,.pv (vI ch.length)),(9,.pv (vI ch.length)),(10,.pv (.bool false))],[],[],[]⟩)
 |0,i,hn,hi,m,hm=>by
   have:i=ch.length:=by omega
   subst this;rw[g51L0e];simp[g51B0,zi]
 |n+1,i,hn,hi,m,hm=>by
   have hi:i<ch.length:=(by omega);obtain⟨x,hx⟩:=aV hi;have k:=ih x (aR hx);have hb:=hB x (aR hx);have e:=Xl hN hB ih n (i+1) (by omega) (by omega) (max m (1+x.dp)) (by omega);rw[bj hx,List.map_cons];simp only[zi];generalize zi (max m (1+x.dp)) ((ch.drop (i+1)).map Ty.dp)=M at *;generalize hd:x.dp=d at *;rw[g51L0e]at e⊢;simp at k e;by_cases q:m<1+d
   ·have q1:(m:Int)<1+d:=(by omega);rw[Nat.max_eq_right (by omega)]at e;simp at e;simp (disch:=omega) [-getElem?_pos,g51B0,hx,hi,k,ah,q1];rw[g51L0e];simp[e]
   ·have q1:¬(m:Int)<1+d:=(by omega);rw[Nat.max_eq_left (by omega)]at e;simp (disch:=omega) [-getElem?_pos,g51B0,hx,hi,k,ah,q1];rw[g51L0e];simp[e]
theorem qS{t x:Ty}(h:x∈t.args):x.nodes.length<t.nodes.length:=by
 have:=ly (f:=fun y:Ty=>y.nodes.length) h
 have h2:t.nodes.length=1+(t.args.map fun y=>y.nodes.length).sum:=by
   rw[Ty.aM,List.length_cons,List.length_flatMap];omega
 omega
theorem Ty.M7(t:Ty):t.dp<t.nodes.length:=by
 refine Ty.dF (p:=fun t=>t.dp<t.nodes.length) ?_ t;intro t ih;rw[Ty.Ca];have hp:1≤t.nodes.length:=by cases t;rw[Ty.nodes];simp
 have:zi 0 (t.args.map Ty.dp)≤t.nodes.length-1:=Fp (by omega) (by
   intro d hd;rw[List.mem_map]at hd;obtain⟨x,hx,rfl⟩:=hd;have h1:=ih x hx;have h2:=qS hx;omega)
 omega
theorem c51(t:Ty):t.Ok→t.nodes.length≤100000000→(aC AP).p 51 [t.pv]=some [vI t.dp]:=by
 refine Ty.dF (p:=fun t=>t.Ok→t.nodes.length≤100000000→(aC AP).p 51 [t.pv]=some [vI t.dp]) ?_ t;intro t ih ho hs;have hN:t.args.length≤1000000000000000000:=by have:=ho.sm;unfold Sm at this;omega
 rw[ae (af:=g51) rfl rfl (by decide)];rw[Ty.Ca];have e1:=Xl hN (fun x hx=>by have:=x.M7;have:=qS hx;omega) (fun x hx=>ih x hx (ho.gw x hx) (by have:=qS hx;omega)) _ 0 rfl (by omega) 0 (by omega);rw[List.drop_zero]at e1;generalize zi 0 (t.args.map Ty.dp)=M at *;rw[g51L0e]at e1;simp at e1;simp[g51,g51L0e,e1]
def Ex.Cd(e:Ex):Bool:=decide (40<e.ty.dp) || (e.ch.attach.map fun x=>x.1.Cd).any id
termination_by SizeOf.sizeOf e
decreasing_by exact Ex.lr x.2
theorem Ex.Nj(e:Ex):e.Cd=(decide (40<e.ty.dp) || e.ch.any Ex.Cd):=by
 rw[Ex.Cd,List.map_attach_eq_pmap,List.pmap_eq_map,List.any_map];rfl
inductive Ex.Tn:Ex→Prop
 |mk {e:Ex}:e.ty.nodes.length≤100000000→(∀x∈e.ch,x.Tn)→e.Tn
theorem Ex.Tn.t{e:Ex}(h:e.Tn):e.ty.nodes.length≤100000000:=by cases h;assumption
theorem Ex.Tn.c{e:Ex}(h:e.Tn):∀x∈e.ch,x.Tn:=by cases h;assumption
theorem c548i(e:Ex):e.Ok→e.Tn→∀sh,aL sh→(aC AP).i 548 [.pv e.pv] sh []=some ([.pv (.bool e.Cd)],sh,[]):=by
 refine Ex.recC (p:=fun e=>e.Ok→e.Tn→∀sh,aL sh→(aC AP).i 548 [.pv e.pv] sh []=some ([.pv (.bool e.Cd)],sh,[])) ?_ e;intro e ih ho ht sh hq;have k1:=c51 e.ty ho.t ht.t;have k2:=c414 ho;have hN:e.ch.length≤2000:=by rw[Ex.dQ];have:=ho.k;have:=ho.a;omega
 have hS:Sm e.ch:=by unfold Sm;omega
 have hA:yL (.fn 548 []) sh Ex.pv Ex.Cd e.ch:=by
   intro x hx;have:=ih x hx (ho.c x hx) (ht.c x hx) sh hq;have hn:=hq.norm;have hs:=hq.shift;simp at this;simp[this,hn,hs]
 have k3:=L6 wR (m:=500) (k:=516) rfl rfl hS hq rfl rfl (fun _ _=>rfl) hA;have hn:=hq.norm;have hs:=hq.shift;rw[Ex.Nj];rw[aE (af:=g548) rfl (by simp[g548])];generalize e.ch.any Ex.Cd=b at *;generalize e.ty.dp=d at *;simp at k1 k2 k3;by_cases h:40<d
 ·have h':40<(d:Int):=(by omega);simp[g548,k1,h,h',hn,hs]
 ·have h':¬40<(d:Int):=(by omega);simp[g548,k1,k2,k3,h,h',hn,hs]
theorem c548{e:Ex}(ho:e.Ok)(ht:e.Tn):(aC AP).p 548 [e.pv]=some [.bool e.Cd]:=by
 have k1:=c51 e.ty ho.t ht.t;have k2:=c414 ho;have hN:e.ch.length≤2000:=by rw[Ex.dQ];have:=ho.k;have:=ho.a;omega
 have hS:Sm e.ch:=by unfold Sm;omega
 have hA:yL (.fn 548 []) [] Ex.pv Ex.Cd e.ch:=by
   intro x hx;have:=c548i x (ho.c x hx) (ht.c x hx) [] (by intro cs h;simp at h);simp at this;simp[this]
 have k3:=L6 wR (m:=500) (k:=516) rfl rfl hS (sh:=[]) (by intro cs h;simp at h) rfl rfl (fun _ _=>rfl) hA;rw[Ex.Nj];rw[ae (af:=g548) rfl rfl (by decide)];generalize e.ch.any Ex.Cd=b at *;generalize e.ty.dp=d at *;simp at k1 k2 k3;by_cases h:40<d
 ·have h':40<(d:Int):=(by omega);simp[g548,k1,h,h']
 ·have h':¬40<(d:Int):=(by omega);simp[g548,k1,k2,k3,h,h']
def Sr(s:bt):Bool:=ir ⟨4,s,0,0,[]⟩
def Nk(s:bt):Bool:=ir ⟨5,s,0,0,[]⟩
theorem c495{s:bt}(h:zd s):(aC AP).p 495 [.str s]=some [.bool (Sr s)]:=by
 have c:=c29 (t:=⟨4,s,0,0,[]⟩) (.mk (by unfold Sm;simp) (by simp)) (.mk h (by simp));rw[ae (af:=g495) rfl rfl (by decide)];simp at c;simp[g495,c,Sr]
theorem c496{s:bt}(h:zd s):(aC AP).p 496 [.str s]=some [.bool (Nk s)]:=by
 have c:=c29 (t:=⟨5,s,0,0,[]⟩) (.mk (by unfold Sm;simp) (by simp)) (.mk h (by simp));rw[ae (af:=g496) rfl rfl (by decide)];simp at c;simp[g496,c,Nk]
def Ty.wr(t:Ty):Bool:=(decide (t.kind=4) || decide (t.kind=5)) && (t.args.attach.map fun x=>x.1.wr).all fun b=>b
termination_by SizeOf.sizeOf t
decreasing_by
 have:=_root_.List.sizeOf_lt_of_mem x.2;cases t;simp at *;omega
theorem Ty.VB(t:Ty):t.wr=((decide (t.kind=4) || decide (t.kind=5)) && t.args.all Ty.wr):=by
 rw[Ty.wr,List.map_attach_eq_pmap,List.pmap_eq_map,List.all_map];rfl
theorem c497(t:Ty):t.Ok→(aC AP).p 497 [t.pv]=some [.bool t.wr]:=by
 refine Ty.dF (p:=fun t=>t.Ok→(aC AP).p 497 [t.pv]=some [.bool t.wr]) ?_ t;intro t ih ho
 have hA:yL (.fn 515 []) [] Ty.pv (fun x=>!x.wr) t.args:=by
   intro x hx;have k:=ih x hx (ho.gw x hx)
   have:(aC AP).i 515 [.pv x.pv] [] []=some ([.pv (.bool (!x.wr))],[],[]):=by
     rw[aE (af:=g515) rfl (by simp[g515])];simp at k;simp[g515,k]
   simp at this;simp[this]
 have k3:=L6 Bz (m:=75) (k:=107) rfl rfl ho.sm (sh:=[]) (by intro cs h;simp at h) rfl rfl (fun _ _=>rfl) hA;have e:(!(t.args.any fun x=>!x.wr))=t.args.all Ty.wr:=sL;rw[Ty.VB,←e];rw[ae (af:=g497) rfl rfl (by decide)];generalize t.args.any (fun x=>!x.wr)=b at *
 try simp at k3
 by_cases h4:t.kind=4
 ·simp[g497,h4,k3]
 · by_cases h5:t.kind=5
   ·simp[g497,h5,k3]
   ·simp[g497,h4,h5]
def VC(a:Ar):Bool:=!decide (a.pos<0) && (Sr a.cZ && (!decide (4<a.vars.length) && a.vars.all Nk))
structure We(a:Ar):Prop where
 c:zd a.cZ
 l:a.vars.length≤1000
 v:∀s∈a.vars,zd s
theorem Ss{s:List bt}(h:∀x∈s,zd x):yL (.fn 499 []) [] PV.str (fun x=>!Nk x) s:=by
 intro x hx;have k:=c496 (h x hx)
 have:(aC AP).i 499 [.pv (.str x)] [] []=some ([.pv (.bool (!Nk x))],[],[]):=by
   rw[aE (af:=g499) rfl (by simp[g499])];simp[g499,k]
 simp[this]
theorem VD{e:Ex}(hN:e.aD.length≤1000)(hn:∀a∈e.aD,We a):∀(n i:Nat),e.aD.length-i=n→i≤e.aD.length→∃i':Int,
   cl AP g483L0 ⟨[(1,.az 1 0),(127,.pv (.au (e.aD.map Ar.pv))),(128,.pv (vI e.aD.length)),(129,.pv (vI i))],[(1,e.cl)],[],[]⟩ =
     some (if (e.aD.drop i).all VC then (.exit 2,⟨[(1,.az 1 0),(127,.pv (.au (e.aD.map Ar.pv))),(128,.pv (vI e.aD.length)),(129,.pv (vI e.aD.length)),(130,.pv (.bool false))],[(1,e.cl)],[],[]⟩)
       else (.ret,⟨[(2,.pv (.bool false))],[],[],[]⟩))
 |0,i,hk,hi=>by
   have:i=e.aD.length:=by omega
   subst this;refine⟨0,?_⟩;rw[List.drop_length,g483L0e];simp[g483B0]
 |n+1,i,hk,hi=>by
   have hi:i<e.aD.length:=(by omega);obtain⟨x,hx⟩:=aV hi;obtain⟨n1,n2,n3⟩:=hn x (aR hx);obtain⟨_,ih⟩:=VD hN hn n (i+1) (by omega) (by omega);refine⟨0,?_⟩;have k1:=c495 n1;have k3:=L6 qC (m:=498) (k:=421) rfl rfl (s:=x.vars) (by unfold Sm;omega) (sh:=[]) (by intro cs h;simp at h) rfl rfl (fun _ _=>rfl) (Ss n3);have e1:(!(x.vars.any fun x=>!Nk x))=x.vars.all Nk:=sL;rw[bj hx,List.all_cons];have hv:VC x=(!decide (x.pos<0) && (Sr x.cZ && (!decide (4<x.vars.length) && !(x.vars.any fun x=>!Nk x)))):=(by rw[e1];rfl);rw[hv];generalize x.vars.any (fun x=>!Nk x)=b at *;generalize Sr x.cZ=u at *;rw[g483L0e]at ih⊢;simp at k3 ih;by_cases q1:x.pos<0
   ·simp (disch:=omega) [-getElem?_pos,g483B0,hx,hi,q1]
   · cases u with
     |false=>simp (disch:=omega) [-getElem?_pos,g483B0,hx,hi,q1,k1]
     |true=>
       by_cases q2:4<x.vars.length
       ·have q2':4<(x.vars.length:Int):=(by omega);simp (disch:=omega) [-getElem?_pos,g483B0,hx,hi,q1,k1,q2,q2']
       · have q2':¬4<(x.vars.length:Int):=(by omega);cases b with
         |true=>simp (disch:=omega) [-getElem?_pos,g483B0,hx,hi,q1,k1,q2,q2',k3]
         |false=>
           simp (disch:=omega) [-getElem?_pos,g483B0,hx,hi,q1,k1,q2,q2',k3,ah];rw[g483L0e];simp[ih]
def ia(k:Int):Option (Bool×Nat):=
 if k=1∨k=2 then some (true,0) else if k=3∨k=10 then some (false,0) else if k=4 then some (true,1) else if k=5 then some (false,2)
 else if k=6∨k=7 then some (true,2) else if k=8∨k=9∨k=11 then some (false,1) else none
def cz:aq→aq
 | .seq a _=>a
 |c=>c
def cg:aq→aq
 | .seq _ b=>b
 |c=>c
def pZ:aq:=cz (cg (cg g483.body))
def d_:aq:=cz (cg (cg (cg g483.body)))
def Su:aq:=cg (cg (cg (cg g483.body)))
theorem PH{e:Ex}:∃X:List (Nat×AV),(X=[]∨∃c8 c12,X=[(8,c8),(12,c12)])∧cl AP pZ ⟨[(1,.az 1 0),(3,.pv (.bool false)),(4,.pv (vI 0))],[(1,e.cl)],[],[]⟩ =
   some (match ia e.kind with
     |some (nm,kd)=>(.normal,⟨(1,.az 1 0)::(3,.pv (.bool nm))::(4,.pv (vI kd))::X,[(1,e.cl)],[],[]⟩)
     |none=>(.ret,⟨[(2,.pv (.bool false))],[],[],[]⟩)):=by
 generalize hk:e.kind=k;by_cases h3:k=3
 ·subst h3;exact⟨[(8,.pv (vI 3)),(12,.pv (.bool true))],Or.inr ⟨_,_,rfl⟩,by simp[pZ,cz,cg,g483,hk,ia]⟩
 by_cases h10:k=10
 ·subst h10;exact⟨[(8,.pv (vI 10)),(12,.pv (.bool true))],Or.inr ⟨_,_,rfl⟩,by simp[pZ,cz,cg,g483,hk,ia]⟩
 refine⟨[],Or.inl rfl,?_⟩;by_cases h1:k=1
 ·subst h1;simp[pZ,cz,cg,g483,hk,ia]
 by_cases h2:k=2
 ·subst h2;simp[pZ,cz,cg,g483,hk,ia]
 by_cases h4:k=4
 ·subst h4;simp[pZ,cz,cg,g483,hk,ia]
 by_cases h5:k=5
 ·subst h5;simp[pZ,cz,cg,g483,hk,ia]
 by_cases h6:k=6
 ·subst h6;simp[pZ,cz,cg,g483,hk,ia]
 by_cases h7:k=7
 ·subst h7;simp[pZ,cz,cg,g483,hk,ia]
 by_cases h8:k=8
 ·subst h8;simp[pZ,cz,cg,g483,hk,ia]
 by_cases h9:k=9
 ·subst h9;simp[pZ,cz,cg,g483,hk,ia]
 by_cases h11:k=11
 ·subst h11;simp[pZ,cz,cg,g483,hk,ia]
 simp[pZ,cz,cg,g483,hk,ia,h1,h2,h3,h4,h5,h6,h7,h8,h9,h10,h11]
noncomputable def Ex.VE(e:Ex)(nm:Bool)(kd:Nat):Bool:=
 !decide (e.pos<0) && (decide (e.kids.length=kd) && ((decide (0<e.aD.length) == decide (e.kind=8)) && (!decide (e.num<0) && (!decide (999999999<e.num) && ((decide (e.num=0) || decide (e.kind=3)) &&
   ((nm || decide (e.name=[])) && ((!decide (e.kind=2) || Sr e.name) && ((!nm || (decide (e.kind=2) || Nk e.name)) && ((!decide (e.kind=9) || (ir e.ty && e.ty.wr)) && (decide (e.kind=9) || decide (e.ty=bq)))))))))))
inductive Ex.Ce:Ex→Prop
 |mk {e:Ex}:zd e.name→e.ty.Nm→(∀a∈e.aD,We a)→(∀x∈e.ch,x.Ce)→e.Ce
theorem Ex.Ce.n{e:Ex}(h:e.Ce):zd e.name:=by cases h;assumption
theorem Ex.Ce.t{e:Ex}(h:e.Ce):e.ty.Nm:=by cases h;assumption
theorem Ex.Ce.a{e:Ex}(h:e.Ce):∀a∈e.aD,We a:=by cases h;assumption
theorem Ex.Ce.c{e:Ex}(h:e.Ce):∀x∈e.ch,x.Ce:=by cases h;assumption
theorem PI{e:Ex}(ho:e.Ok)(hn:e.Ce){nm:Bool}{kd:Nat}(hkd:kd≤2){X:List (Nat×AV)}(hX:X=[]∨∃c8 c12,X=[(8,c8),(12,c12)]):cl AP d_ ⟨(1,.az 1 0)::(3,.pv (.bool nm))::(4,.pv (vI kd))::X,[(1,e.cl)],[],[]⟩ =
   some (if e.VE nm kd=true then (.normal,⟨[(1,.az 1 0),(115,.pv (.bool false))],[(1,e.cl)],[],[]⟩) else (.ret,⟨[(2,.pv (.bool false))],[],[],[]⟩)):=by
 rcases hX with rfl|⟨c8,c12,rfl⟩
 all_goals
   have k1:=c495 hn.n;have k2:=c496 hn.n;have k3:=c29 ho.t hn.t;have k4:=c497 e.ty ho.t;have k5:=c33e (a:=e.ty) (b:=bq) ho.t;unfold Ex.VE;generalize Sr e.name=u at *;generalize Nk e.name=l at *;generalize ir e.ty=v at *;generalize e.ty.wr=w at *;generalize decide (e.ty=bq)=z at *;simp[bq]at k3 k4 k5;by_cases q1:e.pos<0
   ·simp[d_,cz,cg,g483,q1]
   by_cases q2:e.kids.length=kd
   rotate_left
   ·have q2':¬(e.kids.length:Int)=kd:=(by omega);simp[d_,cz,cg,g483,q1,q2,q2']
   have q2':(e.kids.length:Int)=kd:=(by omega);by_cases a:0<e.aD.length
   · by_cases b:e.kind=8
     rotate_left
     ·simp[d_,cz,cg,g483,q1,q2,q2',a,b]
     by_cases q4:e.num<0
     ·simp[d_,cz,cg,g483,q1,q2,q2',a,b,q4]
     by_cases q5:999999999<e.num
     ·simp[d_,cz,cg,g483,q1,q2,q2',a,b,q4,q5]
     by_cases q6:e.num=0
     · have r6:=q6;cases nm with
       |false=>
         by_cases q8:e.name=[]
         rotate_left
         ·simp[d_,cz,cg,g483,q1,q2,q2',a,b,q4,q5,q6,q8]
         cases z with
         |false=>simp[d_,cz,cg,g483,q1,q2,q2',a,b,q4,q5,q6,q8,k1,k2,k3,k4,k5]
         |true=>
           simp[d_,cz,cg,g483,q1,q2,q2',a,b,q4,q5,q6,q8,k1,k2,k3,k4,k5]
       |true=>
         cases l with
         |false=>simp[d_,cz,cg,g483,q1,q2,q2',a,b,q4,q5,q6,k1,k2,k3,k4,k5]
         |true=>
           cases z with
           |false=>simp[d_,cz,cg,g483,q1,q2,q2',a,b,q4,q5,q6,k1,k2,k3,k4,k5]
           |true=>
             simp[d_,cz,cg,g483,q1,q2,q2',a,b,q4,q5,q6,k1,k2,k3,k4,k5]
     ·have r6:=q6;simp[d_,cz,cg,g483,q1,q2,q2',a,b,q4,q5,q6]
   · by_cases b:e.kind=8
     ·simp[d_,cz,cg,g483,q1,q2,q2',a,b]
     by_cases q4:e.num<0
     ·simp[d_,cz,cg,g483,q1,q2,q2',a,b,q4]
     by_cases q5:999999999<e.num
     ·simp[d_,cz,cg,g483,q1,q2,q2',a,b,q4,q5]
     by_cases q6:e.num=0
     · have r6:=q6;cases nm with
       |false=>
         by_cases q8:e.name=[]
         rotate_left
         ·simp[d_,cz,cg,g483,q1,q2,q2',a,b,q4,q5,q6,q8]
         by_cases q9:e.kind=2
         · have r2:=q9;rw[q8]at k1 k2;cases u with
           |false=>simp[d_,cz,cg,g483,q1,q2,q2',a,b,q4,q5,q6,q8,q9,k1,k2,k3,k4,k5]
           |true=>
             cases z with
             |false=>simp[d_,cz,cg,g483,q1,q2,q2',a,b,q4,q5,q6,q8,q9,k1,k2,k3,k4,k5]
             |true=>
               simp[d_,cz,cg,g483,q1,q2,q2',a,b,q4,q5,q6,q8,q9,k1,k2,k3,k4,k5]
         · have r2:=q9;by_cases q10:e.kind=9
           · have r9:=q10;cases v with
             |false=>simp[d_,cz,cg,g483,q1,q2,q2',a,b,q4,q5,q6,q8,q9,q10,k1,k2,k3,k4,k5]
             |true=>
               cases w with
               |false=>simp[d_,cz,cg,g483,q1,q2,q2',a,b,q4,q5,q6,q8,q9,q10,k1,k2,k3,k4,k5]
               |true=>
                 simp[d_,cz,cg,g483,q1,q2,q2',a,b,q4,q5,q6,q8,q9,q10,k1,k2,k3,k4,k5]
           · have r9:=q10;cases z with
             |false=>simp[d_,cz,cg,g483,q1,q2,q2',a,b,q4,q5,q6,q8,q9,q10,k1,k2,k3,k4,k5]
             |true=>
               simp[d_,cz,cg,g483,q1,q2,q2',a,b,q4,q5,q6,q8,q9,q10,k1,k2,k3,k4,k5]
       |true=>
         by_cases q9:e.kind=2
         · have r2:=q9;cases u with
           |false=>simp[d_,cz,cg,g483,q1,q2,q2',a,b,q4,q5,q6,q9,k1,k2,k3,k4,k5]
           |true=>
             cases z with
             |false=>simp[d_,cz,cg,g483,q1,q2,q2',a,b,q4,q5,q6,q9,k1,k2,k3,k4,k5]
             |true=>
               simp[d_,cz,cg,g483,q1,q2,q2',a,b,q4,q5,q6,q9,k1,k2,k3,k4,k5]
         · have r2:=q9;cases l with
           |false=>simp[d_,cz,cg,g483,q1,q2,q2',a,b,q4,q5,q6,q9,k1,k2,k3,k4,k5]
           |true=>
             by_cases q10:e.kind=9
             · have r9:=q10;cases v with
               |false=>simp[d_,cz,cg,g483,q1,q2,q2',a,b,q4,q5,q6,q9,q10,k1,k2,k3,k4,k5]
               |true=>
                 cases w with
                 |false=>simp[d_,cz,cg,g483,q1,q2,q2',a,b,q4,q5,q6,q9,q10,k1,k2,k3,k4,k5]
                 |true=>
                   simp[d_,cz,cg,g483,q1,q2,q2',a,b,q4,q5,q6,q9,q10,k1,k2,k3,k4,k5]
             · have r9:=q10;cases z with
               |false=>simp[d_,cz,cg,g483,q1,q2,q2',a,b,q4,q5,q6,q9,q10,k1,k2,k3,k4,k5]
               |true=>
                 simp[d_,cz,cg,g483,q1,q2,q2',a,b,q4,q5,q6,q9,q10,k1,k2,k3,k4,k5]
     · have r6:=q6;by_cases q7:e.kind=3
       rotate_left
       ·simp[d_,cz,cg,g483,q1,q2,q2',a,b,q4,q5,q6,q7]
       cases nm with
       |false=>
         by_cases q8:e.name=[]
         rotate_left
         ·simp[d_,cz,cg,g483,q1,q2,q2',a,b,q4,q5,q6,q7,q8]
         cases z with
         |false=>simp[d_,cz,cg,g483,q1,q2,q2',a,b,q4,q5,q6,q7,q8,k1,k2,k3,k4,k5]
         |true=>
           simp[d_,cz,cg,g483,q1,q2,q2',a,b,q4,q5,q6,q7,q8,k1,k2,k3,k4,k5]
       |true=>
         cases l with
         |false=>simp[d_,cz,cg,g483,q1,q2,q2',a,b,q4,q5,q6,q7,k1,k2,k3,k4,k5]
         |true=>
           cases z with
           |false=>simp[d_,cz,cg,g483,q1,q2,q2',a,b,q4,q5,q6,q7,k1,k2,k3,k4,k5]
           |true=>
             simp[d_,cz,cg,g483,q1,q2,q2',a,b,q4,q5,q6,q7,k1,k2,k3,k4,k5]
noncomputable def Ex.Cr(e:Ex):Bool:=(match ia e.kind with|some (nm,kd)=>e.VE nm kd|none=>false) && (e.aD.all VC && (e.ch.attach.map fun x=>x.1.Cr).all id)
termination_by SizeOf.sizeOf e
decreasing_by exact Ex.lr x.2
theorem Ex.Sv(e:Ex):e.Cr=((match ia e.kind with|some (nm,kd)=>e.VE nm kd|none=>false) && (e.aD.all VC && e.ch.all Ex.Cr)):=by
 rw[Ex.Cr,List.map_attach_eq_pmap,List.pmap_eq_map,List.all_map];rfl
theorem Nl{k:Int}{nm:Bool}{kd:Nat}(h:ia k=some (nm,kd)):kd≤2:=by
 unfold ia at h
 repeat' split at h
 all_goals first|(simp at h;omega)|simp at h
theorem c483(e:Ex):e.Ok→e.Ce→(aC AP).p 483 [e.pv]=some [.bool e.Cr]:=by
 refine Ex.recC (p:=fun e=>e.Ok→e.Ce→(aC AP).p 483 [e.pv]=some [.bool e.Cr]) ?_ e;intro e ih ho hn;obtain⟨X,hX,kk⟩:=PH (e:=e);have hNa:e.aD.length≤1000:=ho.a;obtain⟨_,kl⟩:=VD (e:=e) hNa hn.a _ 0 rfl (by omega);have k2:=c414 ho;have hN:e.ch.length≤2000:=by rw[Ex.dQ];have:=ho.k;have:=ho.a;omega
 have hS:Sm e.ch:=by unfold Sm;omega
 have hA:yL (.fn 501 []) [] Ex.pv (fun x=>!x.Cr) e.ch:=by
   intro x hx;have k:=ih x hx (ho.c x hx) (hn.c x hx)
   have:(aC AP).i 501 [.pv x.pv] [] []=some ([.pv (.bool (!x.Cr))],[],[]):=by
     rw[aE (af:=g501) rfl (by simp[g501])];simp at k;simp[g501,k]
   simp at this;simp[this]
 have k3:=L6 wR (m:=500) (k:=516) rfl rfl hS (sh:=[]) (by intro cs h;simp at h) rfl rfl (fun _ _=>rfl) hA;have e1:(!(e.ch.any fun x=>!x.Cr))=e.ch.all Ex.Cr:=sL;rw[Ex.Sv,←e1];have hb:g483.body=.seq (cz g483.body) (.seq (cz (cg g483.body)) (.seq pZ (.seq d_ Su))):=rfl;rw[ae (af:=g483) rfl rfl (by decide),hb];generalize (e.ch.any fun x=>!x.Cr)=b at *;rw[List.drop_zero,g483L0e]at kl;cases hk:ia e.kind with
 |none=>
   rw[hk]at kk;simp at kk;simp[cz,cg,g483,kk]
 |some p=>
   obtain⟨nm,kd⟩:=p;rw[hk]at kk;have km:=PI ho hn (nm:=nm) (Nl hk) hX;simp only at kk;by_cases hv:e.VE nm kd=true
   · rw[if_pos hv]at km;by_cases ha:e.aD.all VC=true
     ·rw[if_pos ha]at kl;simp only[hv,ha,Bool.true_and];simp at kk km kl k2 k3;simp[cz,cg,g483,Su,kk,km,g483L0e,kl,k2,k3]
     ·rw[if_neg ha]at kl;simp only[hv,ha,Bool.true_and];simp at kk km kl;simp[cz,cg,g483,Su,kk,km,g483L0e,kl]
   ·rw[if_neg hv]at km;simp only[hv];simp at kk km;simp[cz,cg,g483,kk,km]
structure Sw(ds:List Dt)(bs:List Bd)(V3:AV)(b2:Nat)(S:Sh)(T:aG):Prop where
 q:aL S
 g:S[b2]?=some (some (aN Bd.cells (bs.map Bd.strip)))
 v:(ds=[]∧V3=.own [] 0∧T=[0])∨(ds≠[]∧∃b',V3=.aP b' 4 ds.length true∧b'≠b2∧T=[]∧S[b']?=some (some (aN Dt.cells (ds.map Dt.strip))))
theorem c544i{ds:List Dt}{bs:List Bd}(hd:∀d∈ds,d.cons≠[]∧d.cons.length≤1000)(hdl:ds.length≤1000)(hb:bs≠[])(hbl:bs.length≤1000)(ho:∀b∈bs,b.body.Ok) :
   ∃V3 b2 S T,(aC AP).i 544 [.pv (.agg [.au (ds.map Dt.pv),.au (bs.map Bd.pv)])] [] []=some ([.agg [V3,.aP b2 20 bs.length true]],S,T)∧Sw ds bs V3 b2 S T:=by
 have hb1:bs.length*256≤140737488355328:=by omega
 have hb2:ds.length*72≤140737488355328:=by omega
 have m1:=Sb (l:=bs);have m2:=So (l:=ds);have a1:=Fl (l:=bs.map Bd.strip);have a2:=M_ (l:=ds.map Dt.strip);have n1:(aN Bd.cells (bs.map Bd.strip)).length=bs.length*20:=by rw[bo ga,List.length_map]
 have n2:(aN Dt.cells (ds.map Dt.strip)).length=ds.length*4:=by rw[bo jG,List.length_map]
 rw[List.length_map]at a1 a2;by_cases h0:ds=[]
 · subst h0;refine⟨.own [] 0,0,[some (aN Bd.cells (bs.map Bd.strip))],[0],?_,aL.one aY,rfl,.inl ⟨rfl,rfl,rfl⟩⟩;have l2:=Nf (V3:=.own [] 0) (z:=zP 1) (T:=[0,0,0]) (.inr ⟨rfl,rfl,rfl⟩) (b2:=0) (N:=bs.length) hbl (SS:=fun c=>[some (aN Bd.cells c)]) (fun _=>rfl) (fun _ _=>rfl) (fun _=>aL.one aY) _ 0 rfl (by omega) bs rfl ho;rw[List.take_zero,List.drop_zero,List.nil_append]at l2;have q3:∀aI ts,a9 aI ts [some (aN Bd.cells (bs.map Bd.strip))]=([some (aN Bd.cells (bs.map Bd.strip))],aI,ts):=(aL.one aY).norm;have q1:∀aI ts,a9 aI ts [some (aN Bd.cells bs)]=([some (aN Bd.cells bs)],aI,ts):=(aL.one aY).norm
   try dsimp only at l2
   rw[aE (af:=g544) rfl (by simp[g544])];generalize bs.map Bd.strip=B at *;generalize aN Bd.cells B=TB1 at *;generalize aN Bd.cells bs=TB at *;rw[g544L2e]at l2;simp[zP,q1]at l2;simp at a1 m1;simp (config:={ maxSteps:=1000000 }) (disch:=omega) [-getElem?_pos,g544,hb,hb1,m1,q1,q3,g544L0e,g544B0,g544L2e,l2,a1,n1]
 · have H:SH (fun c=>[some (aN Dt.cells c),some (aN Bd.cells bs)]) 0 1 2 (aN Bd.cells bs):=⟨fun _=>rfl,fun _ _=>rfl,fun _=>(aL.one aY).app (aL.one aY),fun _=>rfl,fun _ _=>rfl,fun _=>rfl,by omega⟩;obtain⟨S',b',r1,r2,r3,r4,l1⟩:=QQ (M:=ds.length) (b2:=1) (n2:=bs.length) hdl (TB:=aN Bd.cells bs) _ 0 rfl (by omega) ds _ 0 2 rfl hd H;rw[List.take_zero,List.drop_zero,List.nil_append]at r2;have hlt:1<S'.length:=(List.getElem?_eq_some_iff.1 r3).1
   have hS:S'.set 1 (some (aN Bd.cells bs))=S':=by
     apply List.ext_getElem?
     intro i;rw[List.getElem?_set];split
     ·rename_i e;subst e;first|rw[if_pos hlt,r3]|rw[r3]
     ·rfl
   have hqs:∀c:List Bd,aL (S'.set 1 (some (aN Bd.cells c))):=fun c cs hc v hv=>by
     rcases List.mem_or_eq_of_mem_set hc with h|h
     ·exact r1 cs h v hv
     ·cases h;exact aY v hv
   have l2:=Nf (V3:=.aP b' 4 ds.length true) (z:=zP 0) (T:=[0,0]) (.inl ⟨_,_,rfl,rfl,rfl⟩) (b2:=1) (N:=bs.length) hbl (SS:=fun c=>S'.set 1 (some (aN Bd.cells c))) (fun _=>List.getElem?_set_self hlt) (fun _ _=>List.set_set ..) hqs _ 0 rfl (by omega) bs rfl ho;rw[List.take_zero,List.drop_zero,List.nil_append]at l2
   try dsimp only at l1 l2
   rw[hS]at l2;have g1:(S'.set 1 (some (aN Bd.cells (bs.map Bd.strip))))[b']?=some (some (aN Dt.cells (ds.map Dt.strip))):=by rw[List.getElem?_set,if_neg (Ne.symm r4)];exact r2
   have g2:(S'.set 1 (some (aN Bd.cells (bs.map Bd.strip))))[1]?=some (some (aN Bd.cells (bs.map Bd.strip))):=List.getElem?_set_self hlt;have q0:∀aI ts,a9 aI ts [some (aN Dt.cells ds),some (aN Bd.cells bs)]=([some (aN Dt.cells ds),some (aN Bd.cells bs)],aI,ts):=((aL.one aY).app (aL.one aY)).norm;have q1:=r1.norm;have q2:=(hqs (bs.map Bd.strip)).norm;refine⟨.aP b' 4 ds.length true,1,S'.set 1 (some (aN Bd.cells (bs.map Bd.strip))),[],?_,hqs _,g2,.inr ⟨h0,b',rfl,r4,rfl,g1⟩⟩;clear r1 r2 r3 hqs hS H;rw[aE (af:=g544) rfl (by simp[g544])];generalize S'.set 1 (some (aN Bd.cells (bs.map Bd.strip)))=S2 at *;generalize bs.map Bd.strip=B at *;generalize ds.map Dt.strip=D at *;generalize aN Bd.cells B=TB1 at *;generalize aN Bd.cells bs=TB at *;generalize aN Dt.cells D=TD1 at *;generalize aN Dt.cells ds=TD at *;rw[g544L0e]at l1;rw[g544L2e]at l2;simp[zP,q0,q1]at l1 l2;simp at a1 a2 m1 m2;simp (config:={ maxSteps:=1000000 }) (disch:=omega) [-getElem?_pos,g544,hb,h0,hb1,hb2,m1,m2,q0,q1,g544L0e,q2,l1,g544L2e,l2,g1,g2,a1,a2,n1,n2]
theorem mO{sh:Sh}{d o:Nat}:dd sh (.az d o)=none:=rfl
def Bd.rp(b:Bd)(r:Ex):Bd:=⟨0,b.rc,b.name,b.sg,b.sig,r⟩
def oN:PV:=.agg [.au [],.au []]
def bn(bs:List Bd)(i:Nat)(b:Bd)(p:List Int)(x:Ex):List Bd:=(bs.map Bd.strip).set i (b.rp (Ex.dz x.strip p b.body.strip).1)
noncomputable def jW(ds:List Dt)(T:List Bd→bt)(bs:List Bd)(h:Int)(x:Ex):List PV:=match (if h<0 then none else eN 0 bs h) with
 |none=>[oN,vI 16]
 |some (i,p)=>match bs[i]? with
   |none=>[]
   |some b=>if x.Cr=false then [oN,vI 17] else if ¬(x.aN ds (dv (lU bs i b p))).1=0 then [oN,vI (x.aN ds (dv (lU bs i b p))).1]
     else if 40<(Ex.dz x.strip p b.body.strip).1.dp then [oN,vI 4] else if x.Cd=true then [oN,vI 4]
     else if 4000<(T (bn bs i b p x)).length then [oN,vI 1]
     else [.agg [.au ((ds.map Dt.strip).map Dt.pv),.au ((bn bs i b p x).map Bd.pv)],vI 0]
structure y7(ds:List Dt)(T:List Bd→bt)(bs:List Bd)(h:Int)(x:Ex):Prop where
 d:∀d∈ds,d.cons≠[]∧d.cons.length≤1000
 dl:ds.length≤1000
 b:V_ bs
 h1:h≤9223372036854775807
 sc:wW x
 nm:x.Ce
 tn:x.Tn
 hl:∃n,x.uY n∧∀(i:Nat) (b:Bd) (p:List Int),bs[i]?=some b→p∈b.body.hl→(dv (lU bs i b p)).length+1000*n≤900000000
 ok:∀(i:Nat) (b:Bd) (p:List Int),bs[i]?=some b→p∈b.body.hl→(Ex.dz x.strip p b.body.strip).1.Ok∧(Ex.dz x.strip p b.body.strip).1.sz≤100000000
 tx:∀(i:Nat) (b:Bd) (p:List Int),bs[i]?=some b→p∈b.body.hl→(aC AP).p 311 [.agg [.au ((ds.map Dt.strip).map Dt.pv),.au ((bn bs i b p x).map Bd.pv)]]=some [.str (T (bn bs i b p x))]∧(T (bn bs i b p x)).length≤130000000000000
theorem c536{ds:List Dt}{T:List Bd→bt}{bs:List Bd}{h:Int}{x:Ex}(H:y7 ds T bs h x) :
   (aC AP).p 536 [.agg [.au (ds.map Dt.pv),.au (bs.map Bd.pv)],vI h,x.pv]=some (jW ds T bs h x):=by
 have k1:=c532 (ds:=ds) H.b H.h1;have k4:=c530 (ds:=ds) H.b.h H.h1;unfold jW;unfold Fo at k1;rw[ae (af:=g536) rfl rfl (by decide)];cases hf:(if h<0 then none else eN 0 bs h) with
 |none=>
   rw[hf]at k1;simp at k1;simp[g536,oN,k1]
 |some r=>
   obtain⟨i,p⟩:=r
   have hf':eN 0 bs h=some (i,p):=by
     split at hf
     ·cases hf
     ·exact hf
   obtain⟨j,b,hj,hb,hp⟩:=kJ hf';have:j=i:=by omega
   subst this;have hi:=(List.getElem?_eq_some_iff.1 hb).1;have hbm:=aR hb;have hl:=H.b.h.1;obtain⟨hok,hsz⟩:=H.b.h.2 b hbm;have hp5:=H.b.dp b hbm p hp;rw[hf]at k1 k4;simp only[hb]at k1⊢;simp only[vk,p8]at k4;have k2:=c483 x H.sc.ok H.nm;obtain⟨n,hn1,hn2⟩:=H.hl;have k3:=c405 (ds:=ds) (by unfold Sm;have:=H.dl;omega) (fun d hd=>by unfold Sm;have:=(H.d d hd).2;omega) n H.sc hn1 (dv (lU bs j b p)) (hn2 j b p hb hp);obtain⟨V3,b2,S,Tk,k5,q⟩:=c544i H.d H.dl (by intro e;subst e;simp at hi) hl (fun b hb=>(H.b.h.2 b hb).1);have k6:=c546 x H.sc.ok;have k7:=c545 (x:=x.strip) p b.body.strip (by omega) (pY hok);obtain⟨o1,o2⟩:=H.ok j b p hb hp;have k8:=c547 _ o1 o2;have k9:=c548 H.sc.ok H.tn;obtain⟨k10,hT⟩:=H.tx j b p hb hp;have hx0:(bs.map Bd.strip)[j]?=some b.strip:=by rw[List.getElem?_map,hb];rfl
   have hget:=nd ga hx0 (o:=9) (k:=11) (by omega)
   have ht:((((b.strip).cells.drop 9).take 11).map AV.pv)=b.body.strip.cl:=by
     have:(b.strip).cells.drop 9=b.body.strip.cells:=rfl;rw[this,List.take_of_length_le (by rw[bU.len];omega),Ex.mA]
   rw[ht]at hget
   have hset2:=lq ga hx0 (y:=b.rp (Ex.dz x.strip p b.body.strip).1) (o:=9) (vs:=(Ex.dz x.strip p b.body.strip).1.cells) (by rw[bU.len];omega) (by
     have h2:=bU.len (Ex.dz x.strip p b.body.strip).1;rw[h2];have e1:(b.strip).cells.take 9=[vI 0,.bool b.rc,.str b.name,.bool b.sg,vI b.sig.kind,.str b.sig.name,vI b.sig.id,vI b.sig.home,.au (b.sig.args.map Ty.pv)]:=rfl;have e2:(b.strip).cells.drop (9+11)=[]:=List.drop_eq_nil_of_le (by rw[ga.len];omega);rw[e1,e2,List.append_nil];rfl)
   rw[Ex.mA]at hset2;have a1:=Fl (l:=bn bs j b p x);have a2:=M_ (l:=ds.map Dt.strip);have e3:bn bs j b p x=(bs.map Bd.strip).set j (b.rp (Ex.dz x.strip p b.body.strip).1):=rfl;rw[←e3]at hset2;have hfl:(bn bs j b p x).length=bs.length:=by rw[e3,List.length_set,List.length_map]
   rw[hfl]at a1;rw[List.length_map]at a2;have hq:=q.q.norm;have hsh:=q.q.shift
   have hQ2:aL (S.set b2 (some (aN Bd.cells (bn bs j b p x)))):=fun cs hc v hv=>by
     rcases List.mem_or_eq_of_mem_set hc with h|h
     ·exact q.q cs h v hv
     ·cases h;exact aY v hv
   have hq2:=hQ2.norm;have hsh2:=hQ2.shift;have hQl:(S.set b2 (some (aN Bd.cells (bn bs j b p x)))).length=S.length:=List.length_set;clear hQ2;have hB:bV (aN Bd.cells (bs.map Bd.strip))=false:=bI aY;have hlen:(aN Bd.cells (bs.map Bd.strip)).length=bs.length*20:=(by rw[bo ga,List.length_map]);have hlen1:(aN Bd.cells (bn bs j b p x)).length=bs.length*20:=(by rw[bo ga,hfl]);have n2:(aN Dt.cells (ds.map Dt.strip)).length=ds.length*4:=(by rw[bo jG,List.length_map]);have hle2:j*20+9+11≤bs.length*20:=(by omega);have hS:=q.g;have hv:=q.v;have hlt:b2<S.length:=(List.getElem?_eq_some_iff.1 hS).1;have hS2:(S.set b2 (some (aN Bd.cells (bn bs j b p x))))[b2]?=some (some (aN Bd.cells (bn bs j b p x))):=List.getElem?_set_self hlt;have hD:ds=[]→ds.map Dt.strip=[]:=fun e=>by rw[e];rfl
   have hV:(V3=.own [] 0∧Tk=[0]∧ds.map Dt.strip=[])∨∃b',V3=.aP b' 4 ds.length true∧Tk=[]∧(S.set b2 (some (aN Bd.cells (bn bs j b p x))))[b']?=some (some (aN Dt.cells (ds.map Dt.strip))):=by
     rcases hv with⟨h1,h2,h3⟩|⟨_,b',h2,h3,h4,h5⟩
     ·exact .inl ⟨h2,h3,hD h1⟩
     ·exact .inr ⟨b',h2,h4,by rw[List.getElem?_set,if_neg (Ne.symm h3)];exact h5⟩
   clear hx0 ht H e3 hv hD q;generalize bn bs j b p x=B at *;generalize bs.map Bd.strip=B0 at *;generalize ds.map Dt.strip=D at *;generalize aN Bd.cells B=TB at *;generalize hSS:S.set b2 (some TB)=S2 at *;generalize aN Bd.cells B0=TB0 at *;generalize (Ex.dz x.strip p b.body.strip).2=r2 at *;generalize (Ex.dz x.strip p b.body.strip).1=r at *;generalize b.body.strip=y at *;generalize dv (lU bs j b p)=N at *;generalize x.aN ds N=f at *;generalize x.strip=xs at *;generalize T B=TX at *;simp[fP]at k1 k2 k3 k4 k5 k6 k7 k8 k9 k10;cases hv1:x.Cr with
   |false=>
     rw[hv1]at k2;simp[g536,oN,k1,k2]
   |true=>
   rw[hv1]at k2;by_cases hf1:f.1=0
   rotate_left
   ·simp[g536,oN,k1,k2,k3,hf1]
   have hTX:(TX.length:Int)≤130000000000000:=(by omega);simp[Ex.cl]at hget hset2;simp at a1 a2;rcases hV with⟨rfl,rfl,hD⟩|⟨b',rfl,rfl,hg⟩
   · subst hD;simp only[List.map_nil]at k10;by_cases c1:40<r.dp
     ·have c1':40<(r.dp:Int):=(by omega);simp (config:={ maxSteps:=1000000 }) (disch:=omega) [-getElem?_pos,mO,g536,oN,k1,k2,k3,hf1,k4,k5,k6,k7,k8,k9,k10,hq,hsh,hq2,hsh2,hS,hi,hB,hlen,hlen1,hle2,hget,hset2,hSS,hS2,a1,a2,n2,c1,c1']
     have c1':¬40<(r.dp:Int):=(by omega);cases c2:x.Cd with
     |true=>
       rw[c2]at k9;simp (config:={ maxSteps:=1000000 }) (disch:=omega) [-getElem?_pos,mO,g536,oN,k1,k2,k3,hf1,k4,k5,k6,k7,k8,k9,k10,hq,hsh,hq2,hsh2,hS,hi,hB,hlen,hlen1,hle2,hget,hset2,hSS,hS2,a1,a2,n2,c1,c1',c2]
     |false=>
       rw[c2]at k9;by_cases c3:4000<TX.length
       ·have c3':4000<(TX.length:Int):=(by omega);simp (config:={ maxSteps:=1000000 }) (disch:=omega) [-getElem?_pos,mO,g536,oN,k1,k2,k3,hf1,k4,k5,k6,k7,k8,k9,k10,hq,hsh,hq2,hsh2,hS,hi,hB,hlen,hlen1,hle2,hget,hset2,hSS,hS2,a1,a2,n2,c1,c1',c2,c3,c3']
       ·have c3':¬4000<(TX.length:Int):=(by omega);simp (config:={ maxSteps:=1000000 }) (disch:=omega) [-getElem?_pos,mO,g536,oN,k1,k2,k3,hf1,k4,k5,k6,k7,k8,k9,k10,hq,hsh,hq2,hsh2,hS,hi,hB,hlen,hlen1,hle2,hget,hset2,hSS,hS2,a1,a2,n2,c1,c1',c2,c3,c3']
   · by_cases c1:40<r.dp
     ·have c1':40<(r.dp:Int):=(by omega);simp (config:={ maxSteps:=1000000 }) (disch:=omega) [-getElem?_pos,mO,g536,oN,k1,k2,k3,hf1,k4,k5,k6,k7,k8,k9,k10,hq,hsh,hq2,hsh2,hS,hi,hB,hlen,hlen1,hle2,hget,hset2,hSS,hS2,a1,a2,n2,hg,c1,c1']
     have c1':¬40<(r.dp:Int):=(by omega);cases c2:x.Cd with
     |true=>
       rw[c2]at k9;simp (config:={ maxSteps:=1000000 }) (disch:=omega) [-getElem?_pos,mO,g536,oN,k1,k2,k3,hf1,k4,k5,k6,k7,k8,k9,k10,hq,hsh,hq2,hsh2,hS,hi,hB,hlen,hlen1,hle2,hget,hset2,hSS,hS2,a1,a2,n2,hg,c1,c1',c2]
     |false=>
       rw[c2]at k9;by_cases c3:4000<TX.length
       ·have c3':4000<(TX.length:Int):=(by omega);simp (config:={ maxSteps:=1000000 }) (disch:=omega) [-getElem?_pos,mO,g536,oN,k1,k2,k3,hf1,k4,k5,k6,k7,k8,k9,k10,hq,hsh,hq2,hsh2,hS,hi,hB,hlen,hlen1,hle2,hget,hset2,hSS,hS2,a1,a2,n2,hg,c1,c1',c2,c3,c3']
       ·have c3':¬4000<(TX.length:Int):=(by omega);simp (config:={ maxSteps:=1000000 }) (disch:=omega) [-getElem?_pos,mO,g536,oN,k1,k2,k3,hf1,k4,k5,k6,k7,k8,k9,k10,hq,hsh,hq2,hsh2,hS,hi,hB,hlen,hlen1,hle2,hget,hset2,hSS,hS2,a1,a2,n2,hg,c1,c1',c2,c3,c3']
theorem c306p{L:List Int}(hL:Sm L)(bits:Int):∃(ds:List Dt) (bs:List Bd),rW ds∧0<bs.length∧bs.length≤4∧(∀b∈bs,oM 100 b) ∧
   (aC AP).p 306 [vI bits,.au (L.map vI)]=some [.agg [.au (ds.map Dt.pv),.au (bs.map Bd.pv)]]:=by
 obtain⟨ds,k1,d1,d2⟩:=c32 bits;have hD:rW ds:=⟨d1,d2⟩;obtain⟨r,j0,e1,r0,r1,hj0⟩:=p9 (nr (L:=L)) hL (i:=0) (by omega) (n:=4) (by omega) (by omega);obtain⟨r,rfl,hr⟩:=pF (n:=4) r0 (by simpa using r1);obtain⟨b,l1,j1,b1,b2,b3,e2⟩:=Vp hL hD (N:=1+r) (by omega) (by omega) hj0;obtain⟨l',k',bs',j',q1,q2,q3,e3⟩:=Vq hL hD (N:=1+r) (by omega) _ 1 rfl (by omega) l1 0 [b] j1 (b2.gY (by omega)) rfl (by simpa using b1) b3;refine⟨ds,bs',hD,by omega,by omega,q2,?_⟩;have e5:=e2.trans e3;have tn:=((kI (L:=L) (k:=k') (bs:=bs')).quiet j').norm;have tsh:=((kI (L:=L) (k:=k') (bs:=bs')).quiet j').shift;have tg:=Gn (L:=L) (k:=k') (bs:=bs') (j:=j');have a1:=Fl (l:=bs');have n1:(aN Bd.cells bs').length=bs'.length*20:=by rw[bo ga]
 generalize vU L k' bs' j'=S at *;generalize aN Bd.cells bs'=TB at *;clear e2 e3;rw[g306L0e]at e5;have hw:(1:Int)+r=((1+r:Nat):Int):=by omega
 simp at k1 e1 e5 a1;rw[ae (af:=g306) rfl rfl (by decide)];simp (disch:=omega) [-getElem?_pos,g306,k1,e1,ah,g306L0e,e5,tn,tsh,tg,a1,n1]
theorem Cf{AQ:Nat→Option aA}(hQ:gG AQ)(t:Ty):t.Kn KT→t.nodes.length≤10000→∃s:bt,s.length+3≤105*t.nodes.length∧(aC AQ).p 252 [t.pv]=some [.str s]:=by
 refine Ty.dF (p:=fun t=>t.Kn KT→t.nodes.length≤10000→∃s:bt,s.length+3≤105*t.nodes.length∧(aC AQ).p 252 [t.pv]=some [.str s]) ?_ t;intro t ih hk0 hN;have hl:=hk0.nm;have hp:=t.wU;have ha:=EZ (t:=t);obtain⟨f,hf⟩:=skolem fun x hm=>ih x hm (hk0.kd x hm) (by have:=wV hm;omega)
 have fin:∀x∈t.args,(f x).length+3≤1050000:=fun x hm=>by have h1:=(hf x hm).1;have h2:=wV hm;omega
 by_cases hk5:t.kind=5
 · refine⟨t.name,by omega,?_⟩
   ·rw[ae (af:=g252) hQ.RQ rfl (by decide)];simp[g252,hk5]
 have hk:t.kind=4∨t.kind=0∧t.args=[]:=by
   by_cases q:t.kind=4
   ·exact .inl q
   ·obtain⟨q1,q2⟩:=hk0.hd q;simp at q1;exact .inr ⟨by omega,q2⟩
 have k264:=c264 hQ (t:=t);by_cases hr:t.lL=true
 · have hk:t.kind=4:=by simp only[Ty.lL,Bool.and_eq_true,decide_eq_true_eq]at hr;exact hr.1
   obtain⟨a,b,he⟩:∃a b,t.args=[a,b]:=by
     simp only[Ty.lL,Bool.and_eq_true,decide_eq_true_eq]at hr
     match e:t.args,hr.2.2 with
     |[a,b],_=>exact⟨a,b,rfl⟩
   have fa:=fin a (by simp[he]);have fb:=fin b (by simp[he]);have hnn:t.nodes.length=1+a.nodes.length+b.nodes.length:=(by rw[t.aM,he];simp;omega);obtain⟨la,pa⟩:=hf a (by simp[he]);obtain⟨lb,pb⟩:=hf b (by simp[he]);have ka:=c264 hQ (t:=a);have ke:=c258 hQ (s:=f a) (b:=a.lL) (by omega);have hel:=mE (b:=a.lL) (s:=f a);rw[hr]at k264;clear hf fin ih;refine⟨kG a.lL (f a)++[32,45,62,32]++f b,by simp;omega,?_⟩
   ·rw[ae (af:=g252) hQ.RQ rfl (by decide)];generalize kG a.lL (f a)=E at *;simp[he,hk]at k264 pa pb ka ke;simp (disch:=first|omega|(simp only[List.length_append,List.length_cons,List.length_nil];omega)) [-ef,gR,g252,hk,he,k264,pa,pb,ka,ke]
 · have hr':t.lL=false:=by simpa using hr
   have h1:=UF hQ (args:=t.args) (f:=fun x=>kG (decide (x.kind=4) && decide (x.args≠[])) (f x)) (M:=1050000) (by omega) (by omega)
     (fun x hm=>⟨c265 hQ (hf x hm).2 (by have:=fin x hm;omega),by have:=fin x hm;have:=mE (b:=decide (x.kind=4) && decide (x.args≠[])) (s:=f x);omega⟩) _ 0 rfl (by omega) t.name (by omega)
   have hlen:((t.args).flatMap fun x=>32::kG (decide (x.kind=4) && decide (x.args≠[])) (f x)).length≤105*(t.args.flatMap Ty.nodes).length:=Mw fun x hm=>by
     have h1:=(hf x hm).1;have h2:=mE (b:=decide (x.kind=4) && decide (x.args≠[])) (s:=f x);simp only[List.length_cons];omega
   have hnn:t.nodes.length=1+(t.args.flatMap Ty.nodes).length:=(by rw[t.aM];simp;omega);rw[List.drop_zero]at h1;clear hf fin ih;refine⟨t.name++(t.args).flatMap fun x=>32::kG (decide (x.kind=4) && decide (x.args≠[])) (f x),by rw[List.length_append];omega,?_⟩
   · rw[ae (af:=g252) hQ.RQ rfl (by decide)];generalize ((t.args).flatMap fun x=>32::kG (decide (x.kind=4) && decide (x.args≠[])) (f x))=E at *;rw[hr']at k264;rw[g252L0e]at h1;rcases hk with hk|⟨hk,hz⟩
     ·simp[hk]at k264 h1;simp[g252,hk,k264,g252L0e,h1]
     ·simp[hk,hz]at k264 h1;simp[g252,hk,hz,k264,g252L0e,h1]
def Cg(AQ:Nat→Option aA)(e:Ex):Prop:=∃s:bt,s.length+10≤2000000*e.sz∧(aC AQ).p 248 [e.pv]=some [.str s]
section
variable {AQ:Nat→Option aA}
theorem PJ(hQ:gG AQ){e:Ex}(h:(e.kind=1∨e.kind=2)∧e.name.length≤100∨e.kind=3∧0≤e.num∧e.num<4∨e.kind=10):Cg AQ e:=by
 have hsz:=e.lx;rcases h with⟨h|h,hl⟩|⟨h,h0,h4⟩|h
 · refine⟨e.name,by omega,?_⟩
   ·rw[ae (af:=g248) hQ.uR rfl (by decide)];simp[g248,h]
 · refine⟨e.name,by omega,?_⟩
   ·rw[ae (af:=g248) hQ.uR rfl (by decide)];simp[g248,h]
 · have k1:=c255 hQ h0 h4
   have hd:(Lib.decDigits e.num.toNat).length≤100:=by
     have:e.num=0∨e.num=1∨e.num=2∨e.num=3:=by omega
     rcases this with q|q|q|q<;>rw[q]<;>simp[Lib.decDigits]
   refine⟨Lib.decDigits e.num.toNat,by omega,?_⟩
   ·rw[ae (af:=g248) hQ.uR rfl (by decide)];simp[g248,h,k1]
 · refine⟨[63],by simp;omega,?_⟩
   ·rw[ae (af:=g248) hQ.uR rfl (by decide)];simp[g248,h]
theorem PK(hQ:gG AQ){e a:Ex}(h:e.kind=4)(hl:e.name.length≤100)(hk:e.kids=[a])(hS:e.sz≤50000000)(ha:Cg AQ a):Cg AQ e:=by
 have hz1:=qH hk;have hsz:=e.lx;obtain⟨s,ls,p⟩:=ha;have k:=c257 hQ (e:=e) (i:=0) (by rw[hk];rfl) p;refine⟨[92]++e.name++[46,32]++s,by simp;omega,?_⟩
 ·rw[ae (af:=g248) hQ.uR rfl (by decide)];simp[h,hk]at k;simp (disch:=first|omega|(simp only[List.length_append,List.length_cons,List.length_nil];omega)) [-ef,gR,g248,h,hk,k]
theorem Nn(hQ:gG AQ){e a:Ex}(h:e.kind=11)(hk:e.kids=[a])(hS:e.sz≤50000000)(ha:Cg AQ a):Cg AQ e:=by
 have hz1:=qH hk;have hsz:=e.lx;obtain⟨s,ls,p⟩:=ha;have k:=c257 hQ (e:=e) (i:=0) (by rw[hk];rfl) p;refine⟨[123]++s++[125],by simp;omega,?_⟩
 ·rw[ae (af:=g248) hQ.uR rfl (by decide)];simp[h,hk]at k;simp (disch:=first|omega|(simp only[List.length_append,List.length_cons,List.length_nil];omega)) [-ef,gR,g248,h,hk,k]
theorem PL(hQ:gG AQ){e a:Ex}(h:e.kind=9)(hk:e.kids=[a])(ht:e.ty.Kn KT)(htn:e.ty.nodes.length≤10000)(hS:e.sz≤50000000)(ha:Cg AQ a):Cg AQ e:=by
 have hz1:=qH hk;have hsz:=e.lx;obtain⟨s,ls,p⟩:=ha;obtain⟨u,lu,pu⟩:=Cf hQ e.ty ht htn;have k:=c257 hQ (e:=e) (i:=0) (by rw[hk];rfl) p;refine⟨[40]++s++[32,58,32]++u++[41],by simp;omega,?_⟩
 ·rw[ae (af:=g248) hQ.uR rfl (by decide)];simp[h,hk]at k;simp at pu;simp (disch:=first|omega|(simp only[List.length_append,List.length_cons,List.length_nil];omega)) [-ef,gR,g248,h,hk,k,pu]
theorem PM(hQ:gG AQ){e a b:Ex}(h:e.kind=6∨e.kind=7)(hl:e.name.length≤100)(hk:e.kids=[a,b])(hS:e.sz≤50000000)(ha:Cg AQ a)(hb:Cg AQ b):Cg AQ e:=by
 have hz1:=qI hk;have hsz:=e.lx;obtain⟨s,ls,p⟩:=ha;obtain⟨u,lu,pu⟩:=hb;have k:=c257 hQ (e:=e) (i:=0) (by rw[hk];rfl) p;have k':=c257 hQ (e:=e) (i:=1) (by rw[hk];rfl) pu;rcases h with h|h
 · refine⟨[108,101,116,32]++e.name++[32,61,32]++s++[32,105,110,32]++u,by simp;omega,?_⟩
   ·rw[ae (af:=g248) hQ.uR rfl (by decide)];simp[h,hk]at k k';simp (disch:=first|omega|(simp only[List.length_append,List.length_cons,List.length_nil];omega)) [-ef,gR,g248,h,hk,k,k']
 · refine⟨[108,101,116,32,114,101,99,32]++e.name++[32,61,32]++s++[32,105,110,32]++u,by simp;omega,?_⟩
   ·rw[ae (af:=g248) hQ.uR rfl (by decide)];simp[h,hk]at k k';simp (disch:=first|omega|(simp only[List.length_append,List.length_cons,List.length_nil];omega)) [-ef,gR,g248,h,hk,k,k']
theorem PN(hQ:gG AQ){e a b:Ex}(h:e.kind=5)(hk:e.kids=[a,b])(hS:e.sz≤50000000)(ha:Cg AQ a)(hb:Cg AQ b):Cg AQ e:=by
 have hz1:=qI hk;have hsz:=e.lx;obtain⟨s,ls,p⟩:=ha;obtain⟨u,lu,pu⟩:=hb;have k:=c257 hQ (e:=e) (i:=0) (by rw[hk];rfl) p;have k':=c257 hQ (e:=e) (i:=1) (by rw[hk];rfl) pu;have a1:=c259 hQ (e:=a);have a2:=c259 hQ (e:=b);have e1:=c258 hQ (s:=s) (b:=!a.gS && !decide (a.kind=5)) (by omega);have e2:=c258 hQ (s:=u) (b:=!b.gS) (by omega);have l1:=mE (b:=!a.gS && !decide (a.kind=5)) (s:=s);have l2:=mE (b:=!b.gS) (s:=u);refine⟨kG (!a.gS && !decide (a.kind=5)) s++[32]++kG (!b.gS) u,by simp;omega,?_⟩
 · rw[ae (af:=g248) hQ.uR rfl (by decide)];simp[h,hk]at k k';generalize kG (!a.gS && !decide (a.kind=5)) s=E1 at *;generalize kG (!b.gS) u=E2 at *;simp at a1 a2 e1 e2;by_cases h5:a.kind=5
   ·have hat:a.gS=false:=(by simp[Ex.gS,h5]);simp[hat,h5]at e1 a1;simp[h5]at k k';simp (disch:=first|omega|(simp only[List.length_append,List.length_cons,List.length_nil];omega)) [-ef,gR,g248,h,hk,k,k',a1,a2,e1,e2,hat,h5]
   · have q1:(a.kind == 5)=false:=(by simp[h5]);have q2:(a.kind != 5)=true:=by simp[h5]
     cases hat:a.gS<;>simp[hat,h5]at e1 a1 <;>
       simp (disch:=first|omega|(simp only[List.length_append,List.length_cons,List.length_nil];omega)) [-ef,gR,g248,h,hk,k,k',a1,a2,e1,e2,hat,h5,q1,q2]
theorem Np(hQ:gG AQ){e a:Ex}(h:e.kind=8)(hk:e.kids=[a])(hS:e.sz≤50000000)(ha:Cg AQ a)(hA:e.aD.length≤10)
   (hv:∀x∈e.aD,x.cZ.length≤100∧x.vars.length≤10∧∀v∈x.vars,v.length≤100) (hx:∀x∈e.aD,Cg AQ x.body):Cg AQ e:=by
 have hz1:=Ga hk;have hsz:=e.lx;obtain⟨s,ls,p⟩:=ha;obtain⟨f,hf⟩:=skolem hx;have k:=c257 hQ (e:=e) (i:=0) (by rw[hk];rfl) p
 have hcv:∀x∈e.aD,(Lib.join (x.cZ::x.vars) [32]).length≤1111:=fun x hm=>by
   obtain⟨h1,h2,h3⟩:=hv x hm;have:=join_le (l:=x.cZ::x.vars) (sep:=[32]) (M:=100) (by simpa using⟨h1,h3⟩);simp only[List.length_cons,List.length_nil]at this;have hm:(x.vars.length+1)*101≤11*101:=Nat.mul_le_mul_right _ (by omega);omega
 have hJ:(Lib.join (e.aD.map (jI f)) [32,124,32]).length≤2000000*kg e.aD+12000:=by
   have h1:=Mx (l:=e.aD) (f:=jI f) (sep:=[32,124,32]) (g:=fun x=>2000000*x.body.sz+1200) (by
     intro x hm;have h1:=hcv x hm;have h2:=(hf x hm).1;simp only[jI,List.length_append,List.length_cons,List.length_nil];omega)
   have h2:∀l:List Ar,(l.map fun x=>2000000*x.body.sz+1200).sum=2000000*kg l+1200*l.length:=by
     intro l;induction l with
     |nil=>simp[kg]
     |cons y r ih=>simp only[List.map_cons,List.sum_cons,List.length_cons,ih,kg];omega
   rw[h2]at h1;omega
 have hM:∀x∈e.aD,(f x).length≤100000000000000:=fun x hm=>by
   have h1:=(hf x hm).1;have h2:=oH hm;omega
 have c:=c260 hQ (aD:=e.aD) (f:=f) (M:=100000000000000) hA (by omega) (fun x hm=>⟨(hf x hm).2,hM x hm,(hv x hm).2.1,by have:=hcv x hm;omega⟩) (by omega);clear hf hv hcv hx hM;generalize Lib.join (e.aD.map (jI f)) [32,124,32]=J at *;refine⟨[99,97,115,101,32]++s++[32,111,102,32]++J++[32,101,110,100],by simp;omega,?_⟩
 ·rw[ae (af:=g248) hQ.uR rfl (by decide)];simp[h,hk]at k;simp (disch:=first|omega|(simp only[List.length_append,List.length_cons,List.length_nil];omega)) [-ef,gR,g248,h,hk,k,c]
theorem Nq(hQ:gG AQ){e:Ex}(h:lR e):e.sz≤50000000→Cg AQ e:=by
 induction h with
 |leaf h1 _ _=>exact fun _=>PJ hQ (h1.imp_right fun h=>h.imp_right And.left)
 |lam h1 h2 h3 _ _ ih=>exact fun hS=>PK hQ h1 h2 h3 hS (ih (by have:=qH h3;omega))
 |app h1 h2 _ _ _ ih1 ih2=>exact fun hS=>PN hQ h1 h2 hS (ih1 (by have:=qI h2;omega)) (ih2 (by have:=qI h2;omega))
 |sq h1 h2 h3 _ _ _ ih1 ih2=>exact fun hS=>PM hQ h1 h2 h3 hS (ih1 (by have:=qI h3;omega)) (ih2 (by have:=qI h3;omega))
 |mD h1 h2 _ h4 h5 _ ih1 ih2=>
   intro hS;have hz:=Ga h2;exact Np hQ h1 h2 hS (ih1 (by omega)) h4 h5 fun x hm=>ih2 x hm (by have:=oH hm;omega)
 |JU h1 h2 _ h4 h5 _ ih=>exact fun hS=>PL hQ h1 h2 h4 h5 hS (ih (by have:=qH h2;omega))
 |held h1 h2 _ _ ih=>exact fun hS=>Nn hQ h1 h2 hS (ih (by have:=qH h2;omega))
end
end Go.Ab.Lw
namespace Go.Ab.Lw
open Ev
def Nr(d:Dt):bt:=match (Fc.EN AP 400 40).p 336 [d.strip.pv] with|some [.str s]=>s|_=>[]
theorem c336s:∀d∈bz,(aC AP).p 336 [d.strip.pv]=some [.str (Nr d)]:=by
 intro d hd;simp only[bz,List.mem_cons,List.not_mem_nil,or_false]at hd;rcases hd with rfl|rfl|rfl|rfl|rfl|rfl|rfl<;>exact Fc.OQ (k:=400) (n:=40) (by kernel_rfl)
theorem Ns:∀d∈bz,(Nr d).length≤1000:=by decide +kernel
structure Wg(b:Bd):Prop where
 st:b.sig.Kn KT
 sn:b.sig.nodes.length≤90
 nm:b.name.length≤100
 tx:lR b.body
 w:b.body.sz≤15000000
structure WU(b:Bd)(p:bt×bt):Prop where
 l1:p.1.length≤10000
 l2:p.2.length≤30000000000000
 n:b.name.length≤100
 k:(aC AP).p 337 [b.pv]=some [.str (Vv b p)]
theorem c337w{b:Bd}(h:Wg b):∃p,WU b p:=by
 obtain⟨s,ls,k1⟩:=Cf QM b.sig h.st (by have:=h.sn;omega);have hw:=h.w;have hsn:=h.sn;have hn:=h.nm;obtain⟨u,lu,k3⟩:=Nq QM h.tx (by omega);refine⟨(s,u),by simp only;omega,by simp only;omega,hn,?_⟩;rw[ae (af:=g337) rfl rfl (by decide)];simp at k1 k3
 cases hr:b.rc<;>cases hs:b.sg <;>
   simp (disch:=first|omega|(simp only[List.length_append,List.length_cons,List.length_nil];omega)) [-ef,gR,g337,Vv,hr,hs,k1,k3]
theorem PO{b:Bd}{p:bt×bt}(h:WU b p):(Vv b p).length≤30000000020000:=by
 have h1:=h.l1;have h2:=h.l2;have h3:=h.n;unfold Vv;cases b.rc<;>cases b.sg<;>simp<;>omega
open Classical in
noncomputable def S8(b:Bd):bt:=if h:∃p,WU b p then Vv b h.choose else []
theorem Nt{b:Bd}(h:Wg b):(aC AP).p 337 [b.pv]=some [.str (S8 b)]∧(S8 b).length≤30000000020000:=by
 have e:=c337w h;unfold S8;rw[dif_pos e];exact⟨e.choose_spec.k,PO e.choose_spec⟩
noncomputable def Nu(ds:List Dt)(bs:List Bd):bt:=ds.flatMap Nr++bs.flatMap S8
theorem c311s{ds:List Dt}{bs:List Bd}(hD:rW ds)(h4:bs.length≤4)(ho:∀b∈bs,Wg b) :
   (aC AP).p 311 [.agg [.au ((ds.map Dt.strip).map Dt.pv),.au (bs.map Bd.pv)]]=some [.str (Nu ds bs)]∧(Nu ds bs).length≤130000000000000:=by
 have hdl:=hD.len;have l1:=xl (l:=ds) (g:=Nr) fun d hd=>Ns d (hD.all d hd)
 have l2:=xl (l:=bs) (g:=S8) fun b hb=>(Nt (ho b hb)).2;have m1:ds.length*1000≤8*1000:=Nat.mul_le_mul_right _ hdl
 have m2:bs.length*30000000020000≤4*30000000020000:=Nat.mul_le_mul_right _ h4;have hlen:(Nu ds bs).length≤130000000000000:=by unfold Nu;rw[List.length_append];omega
 refine⟨?_,hlen⟩;rw[xX (f:=LP 336 337) (af:=g311) rfl rfl]
 have k1:∀l:List Dt,(∀d∈l,d∈bz)→kD (aC AP).p 336 ((l.map Dt.strip).map Dt.pv)=some (l.flatMap Nr):=by
   intro l;induction l with
   |nil=>intro _;rfl
   |cons d r ih=>
     intro hl;have a:=ih fun x hx=>hl x (by simp[hx])
     have b:=c336s d (hl d (by simp));simp only[List.map_cons,kD,b,a,Option.map_some,List.flatMap_cons]
 have k2:∀l:List Bd,(∀b∈l,Wg b)→kD (aC AP).p 337 (l.map Bd.pv)=some (l.flatMap S8):=by
   intro l;induction l with
   |nil=>intro _;rfl
   |cons d r ih=>
     intro hl;have a:=ih fun x hx=>hl x (by simp[hx])
     have b:=(Nt (hl d (by simp))).1;simp only[List.map_cons,kD,b,a,Option.map_some,List.flatMap_cons]
 have q1:((ds.map Dt.strip).map Dt.pv).all (eY 4)=true:=by simp[eY,de]
 have q2:(bs.map Bd.pv).all (eY 20)=true:=by simp[eY,de]
 simp only[LP,wJ];rw[if_pos ⟨q1,q2,by simp;omega,by simp;omega⟩,k1 ds hD.all,k2 bs ho];simp only;rw[if_pos (by unfold Nu at hlen;omega)];rfl
theorem y8{e x:Ex}(h:x∈e.strip.ch):∃y∈e.ch,x=y.strip:=by
 rw[iv,List.mem_map]at h;obtain⟨y,hy,rfl⟩:=h;exact⟨y,hy,rfl⟩
theorem d0(e:Ex):e.strip.kids=e.kids.map Ex.strip:=by rw[Ex.dG]
theorem dc(e:Ex):e.strip.aD=e.aD.map fun a=>⟨0,a.cZ,a.vars,a.body.strip⟩:=by rw[Ex.dG]
theorem kK(e:Ex):e.strip.ty=e.ty:=by rw[Ex.dG]
theorem iw(e:Ex):e.strip.name=e.name:=by rw[Ex.dG]
theorem qT(e:Ex):e.strip.num=e.num:=by rw[Ex.dG]
theorem JN(e:Ex):e.One→e.strip.One:=by
 refine Ex.recC (p:=fun e=>e.One→e.strip.One) ?_ e;intro e ih h;refine .mk (fun hk=>by rw[d0,List.length_map];rw[db]at hk;exact h.h hk) fun x hx=>?_;obtain⟨y,hy,rfl⟩:=y8 hx;exact ih y hy (h.c y hy)
theorem Nv(e:Ex):(e.JW fun x=>x.ty.Cw)→e.strip.JW fun x=>x.ty.Cw:=by
 refine Ex.recC (p:=fun e=>(e.JW fun x=>x.ty.Cw)→e.strip.JW fun x=>x.ty.Cw) ?_ e;intro e ih h;refine .mk (by rw[kK];exact h.h) fun x hx=>?_;obtain⟨y,hy,rfl⟩:=y8 hx;exact ih y hy (h.c y hy)
theorem fG{e:Ex}(h:wW e):wW e.strip:=⟨pY h.ok,JN e h.one,Nv e h.cw⟩
theorem eR:∀{n:Nat} {e:Ex},e.uY n→e.strip.uY n
 |n+1,e,h=>.mk fun x hx=>by
   obtain⟨y,hy,rfl⟩:=y8 hx;exact eR (h.c y hy)
 |0,e,h=>by cases h
theorem kL{e:Ex}(h:lR e):lR e.strip:=by
 induction h with
 |leaf h1 h2 h3=>exact .leaf (by rw[db,iw,qT,kK];exact h1) (by rw[d0,h2];rfl) (by rw[dc,h3];rfl)
 |lam h1 h2 h3 h4 _ ih=>exact .lam (by rw[db];exact h1) (by rw[iw];exact h2) (by rw[d0,h3];rfl) (by rw[dc,h4];rfl) ih
 |app h1 h2 h3 _ _ ih1 ih2=>exact .app (by rw[db];exact h1) (by rw[d0,h2];rfl) (by rw[dc,h3];rfl) ih1 ih2
 |sq h1 h2 h3 h4 _ _ ih1 ih2=>exact .sq (by rw[db];exact h1) (by rw[iw];exact h2) (by rw[d0,h3];rfl) (by rw[dc,h4];rfl) ih1 ih2
 |mD h1 h2 _ h3 h4 _ ih ih2=>
   refine .mD (by rw[db];exact h1) (by rw[d0,h2];rfl) ih (by rw[dc,List.length_map];exact h3) ?_ ?_
   ·intro x hx;rw[dc,List.mem_map]at hx;obtain⟨a,ha,rfl⟩:=hx;exact h4 a ha
   ·intro x hx;rw[dc,List.mem_map]at hx;obtain⟨a,ha,rfl⟩:=hx;exact ih2 a ha
 |JU h1 h2 h3 h4 h5 _ ih=>exact .JU (by rw[db];exact h1) (by rw[d0,h2];rfl) (by rw[dc,h3];rfl) (by rw[kK];exact h4) (by rw[kK];exact h5) ih
 |held h1 h2 h3 _ ih=>exact .held (by rw[db];exact h1) (by rw[d0,h2];rfl) (by rw[dc,h3];rfl) ih
structure vp(x:Ex):Prop where
 sc:wW x
 nm:x.Ce
 tn:x.Tn
 hl:x.uY 100
 tx:lR x
 w:x.sz≤500000
structure VF(b:Bd):Prop where
 sc:wW b.body
 h:b.body.uY 300
 so:b.sig.Ok
 sn:b.sig.nodes.length≤90
 nm:b.name.length≤100
 st:b.sig.Kn KT
 w:b.body.sz≤14500000
 tx:lR b.body
theorem Sx{b:Bd}(o:oM 200 b):VF b:=⟨o.sc,iU o.h (by omega),o.so,o.sn,o.nm,o.st,by have:=o.w;omega,o.tx⟩
theorem QR{bs:List Bd}(h4:bs.length≤4)(ho:∀b∈bs,VF b):V_ bs where
 h:=⟨by omega,fun b hb=>⟨(ho b hb).sc.ok,by have:=(ho b hb).w;omega⟩⟩
 one:=fun b hb=>(ho b hb).sc.one
 dp:=fun b hb p hp=>by
   obtain⟨_,x,hx,_⟩:=sN b.body p hp;have:=y5 hx (ho b hb).h;omega
theorem Gs{ds es:List Dt}{bs:List Bd}{h:Int}{x:Ex}(hs:es.map Dt.strip=ds.map Dt.strip)(hD:rW ds)(hd:∀d∈es,d.cons≠[]∧d.cons.length≤1000)(h4:bs.length≤4)(ho:∀b∈bs,VF b)(h1:h≤9223372036854775807)(hx:vp x) :
   y7 es (Nu ds) bs h x where
 d:=hd
 dl:=by have:=hD.len;have:=congrArg List.length hs;simp at this;omega
 b:=QR h4 ho
 h1:=h1
 sc:=hx.sc
 nm:=hx.nm
 tn:=hx.tn
 hl:=by
   refine⟨100,hx.hl,fun i b p hb hp=>?_⟩;have k:=qP (lU bs i b p);have hN:=QR h4 ho;have v:=Gq (hN.h.2 b (aR hb)).1 (hN.dp b (aR hb) p hp)
   have:(lU bs i b p).length≤500005:=by
     unfold lU;rw[List.length_append,List.length_append,List.length_map,List.length_take];split<;>simp<;>omega
   omega
 ok:=fun i b p hb hp=>by
   have o:=ho b (aR hb);obtain⟨q1,_,_,q4⟩:=pW (fG hx.sc) (eR hx.hl) p b.body.strip 300 (fG o.sc) (eR o.h);have w1:=o.w;have w2:=hx.w;rw[iM,iM]at q4;exact⟨q1.ok,by omega⟩
 tx:=fun i b p hb hp=>by
   rw[hs];refine c311s hD (by unfold bn;rw[List.length_set,List.length_map];exact h4) fun c hc=>?_;rcases List.mem_or_eq_of_mem_set hc with h|rfl
   ·rw[List.mem_map]at h;obtain⟨a,ha,rfl⟩:=h;have o:=ho a ha;exact⟨o.st,o.sn,o.nm,kL o.tx,by have:=o.w;show a.body.strip.sz≤_;rw[iM];omega⟩
   ·have o:=ho b (aR hb);obtain⟨_,_,q3,q4⟩:=pW (fG hx.sc) (eR hx.hl) p b.body.strip 300 (fG o.sc) (eR o.h);have w1:=o.w;have w2:=hx.w;rw[iM,iM]at q4;exact⟨o.st,o.sn,o.nm,q3 (kL hx.tx) (kL o.tx),by show (Ex.dz x.strip p b.body.strip).1.sz≤_;omega⟩
theorem Nw{ds:List Dt}{bs:List Bd}{h:Int}{x:Ex}(hD:rW ds)(hd:∀d∈ds,d.cons≠[]∧d.cons.length≤1000)(h4:bs.length≤4)(ho:∀b∈bs,oM 200 b)(h1:h≤9223372036854775807)(hx:vp x):y7 ds (Nu ds) bs h x:=
 Gs rfl hD hd h4 (fun b hb=>Sx (ho b hb)) h1 hx
theorem VG{K:Int→Prop}{t:Ty}(h:t.Kn K):t.Nm:=by
 induction h with
 |mk _ h2 _ ih=>exact .mk (by unfold zd;omega) ih
theorem kj:bq.Nm:=.mk (by simp[bq,zd]) (by simp[bq])
theorem eS:bq.nodes.length≤100000000:=by rw[Ty.aM];simp[bq]
def NT(e:Ex):Prop:=e.Ce∧e.Tn
theorem gU{k p m:Int}{s:bt}{l:List Ex}{as:List Ar}{t:Ty}(hs:s.length≤100)(ht:t.Nm)(hn:t.nodes.length≤100000000)(ha:∀a∈as,We a∧NT a.body)(hl:∀x∈l,NT x):NT ⟨k,p,s,m,l,as,t⟩:=by
 have hc:∀x∈(⟨k,p,s,m,l,as,t⟩:Ex).ch,NT x:=by
   intro x hx;simp only[Ex.ch,List.mem_append,List.mem_map]at hx;rcases hx with h|⟨a,h,rfl⟩
   ·exact hl x h
   ·exact (ha a h).2
 exact⟨.mk (by simp only[zd];omega) ht (fun a h=>(ha a h).1) fun x hx=>(hc x hx).1,.mk hn fun x hx=>(hc x hx).2⟩
theorem fc.nt{ds:List Dt}(hD:rW ds){n:Nat}{e:Ex}(h:fc ds n e):NT e:=by
 have hD8:∀d∈ds,D8 d:=fun d hd=>yQ d (hD.all d hd);have hdn:∀d∈ds,d.name.length≤100:=fun d hd=>(iS d (hD.all d hd)).1
 induction h with
 |var hs=>exact gU (dB _ hs) kj eS (by simp) (by simp)
 |int h0 h4=>exact gU (by simp) kj eS (by simp) (by simp)
 |cZ hd hc=>exact gU ((iS _ (hD.all _ hd)).2 _ hc) kj eS (by simp) (by simp)
 |gone=>exact gU (by simp) kj eS (by simp) (by simp)
 |hole=>exact gU (by simp) kj eS (by simp) (by simp)
 |lam hs _ ih=>exact gU (dB _ hs) kj eS (by simp) (by simpa using ih)
 |app _ _ iha ihb=>exact gU (by simp) kj eS (by simp) (by simpa using⟨iha,ihb⟩)
 |sq hk hs _ _ iha ihb=>exact gU (dB _ hs) kj eS (by simp) (by simpa using⟨iha,ihb⟩)
 |JU _ ht ih=>
   have gn:=ht.small (fun d hd=>(hD8 d hd).1) (by simp);exact gU (by simp) (VG (mM hdn (by simp) ht)) (by omega) (by simp) (by simpa using ih)
 |held _ ih=>exact gU (by simp) kj eS (by simp) (by simpa using ih)
 |up _ ih=>exact ih
 | @mD n d a as hd ha hl hb hv hc iha ihb=>
   obtain⟨_,_,h8a,h8b⟩:=hD8 _ hd;refine gU (by simp) kj eS (fun x hx=>⟨?_,ihb x hx⟩) (by simpa using iha);obtain⟨i,hi⟩:=List.getElem?_of_mem hx;have hil:=(List.getElem?_eq_some_iff.1 hi).1;obtain⟨c,hcc⟩:=aV (l:=d.cons) (i:=i) (by omega);obtain⟨q1,q2⟩:=hc i c x hcc hi;have m:=(iS _ (hD.all _ hd)).2 _ (aR hcc);have m8:=h8b c (aR hcc);exact⟨by rw[q1];unfold zd;omega,by omega,fun v hvv=>by have:=dB _ ((hv x hx).2 v hvv);unfold zd;omega⟩
theorem fc.fill{ds:List Dt}(hD:rW ds){n:Nat}(hn:n≤2){e:Ex}(h:fc ds n e):vp e:=by
 have t:=(h.Xz hD).up (m:=36) (by omega);have nt:=h.nt hD;exact⟨t.sc,nt.1,nt.2,iU t.h (by omega),t.tx,by have:=t.w;simp[wN]at this;omega⟩
theorem Nx{α:Type}{l:List α}{i:Nat}{x:α}(h:l[i]?=some x):l.set i x=l:=by
 apply List.ext_getElem?
 intro j;rw[List.getElem?_set];split
 · rename_i q;subst q;split
   ·exact h.symm
   ·rename_i q;exact absurd (List.getElem?_eq_some_iff.1 h).1 q
 ·rfl
theorem VH{s:List bt}(hS:s.length<1000000000):∀(n i:Nat),s.length-i=n→i≤s.length →
   cl AP g266L0 ⟨[(0,.pv (.au (s.map .str))),(1,.pv (.au (s.map .str))),(5,.pv (vI i))],[],[],[]⟩ =
     some (.exit 0,⟨[(0,.pv (.au (s.map .str))),(1,.pv (.au (s.map .str))),(5,.pv (vI s.length)),(14,.pv (.bool false))],[],[],[]⟩)
 |0,i,hn,hi=>by
   have:i=s.length:=by omega
   subst this;rw[g266L0e];simp[g266B0]
 |n+1,i,hn,hi=>by
   have hi:i<s.length:=(by omega);obtain⟨x,hx⟩:=aV hi;have ih:=VH hS n (i+1) (by omega) (by omega);rw[g266L0e]at ih⊢;simp at ih;simp (disch:=omega) [-getElem?_pos,g266B0,hx,hi,ah];rw[g266L0e];simp[ih]
theorem c266{s:List bt}(hS:s.length<1000000000):(aC AP).p 266 [.au (s.map .str),.au (s.map .str)]=some [.bool true]:=by
 have e:=VH hS _ 0 rfl (by omega);rw[g266L0e]at e;simp at e;rw[ae (af:=g266) rfl rfl (by decide)];simp[g266,g266L0e,e]
theorem VI{a b:List Ex}(hN:a.length≤1000000)(hl:b.length=a.length)(h:∀(i:Nat) (x y:Ex),a[i]?=some x→b[i]?=some y→(aC AP).p 253 [x.pv,y.pv]=some [.bool true]):∀(n i:Nat),a.length-i=n→i≤a.length →
   cl AP g267L0 ⟨[(0,.pv (.au (a.map Ex.pv))),(1,.pv (.au (b.map Ex.pv))),(5,.pv (vI i))],[],[],[]⟩ =
     some (.exit 0,⟨[(0,.pv (.au (a.map Ex.pv))),(1,.pv (.au (b.map Ex.pv))),(5,.pv (vI a.length)),(14,.pv (.bool false))],[],[],[]⟩)
 |0,i,hn,hi=>by
   have:i=a.length:=by omega
   subst this;rw[g267L0e];simp[g267B0]
 |n+1,i,hn,hi=>by
   have hi:i<a.length:=(by omega);have hib:i<b.length:=(by omega);obtain⟨x,hx⟩:=aV hi;obtain⟨y,hy⟩:=aV hib;have k:=h i x y hx hy;have ih:=VI hN hl h n (i+1) (by omega) (by omega);rw[g267L0e]at ih⊢;simp at ih k;simp (disch:=omega) [-getElem?_pos,g267B0,hx,hy,hi,hib,k,ah];rw[g267L0e];simp[ih]
theorem c267{a b:List Ex}(hN:a.length≤1000000)(hl:b.length=a.length)(h:∀(i:Nat) (x y:Ex),a[i]?=some x→b[i]?=some y→(aC AP).p 253 [x.pv,y.pv]=some [.bool true]):(aC AP).p 267 [.au (a.map Ex.pv),.au (b.map Ex.pv)]=some [.bool true]:=by
 have e:=VI hN hl h _ 0 rfl (by omega);rw[g267L0e]at e;simp at e;rw[ae (af:=g267) rfl rfl (by decide)];simp[g267,hl,g267L0e,e]
theorem JO{a b:Ex}(h:a.strip=b.strip):b.kind=a.kind∧b.name=a.name∧b.num=a.num∧b.ty=a.ty∧b.kids.length=a.kids.length∧b.aD.map (fun x=>(x.cZ,x.vars))=a.aD.map (fun x=>(x.cZ,x.vars))∧b.ch.map Ex.strip=a.ch.map Ex.strip:=by
 rw[Ex.dG,Ex.dG b]at h;simp only[Ex.mk.injEq,true_and]at h;obtain⟨h1,h2,h3,h4,h5,h6⟩:=h;have e1:=congrArg (List.map fun x:Ar=>(x.cZ,x.vars)) h5;have e2:=congrArg (List.map fun x:Ar=>x.body) h5;simp only[List.map_map,Function.comp_def]at e1 e2;refine⟨h1.symm,h2.symm,h3.symm,h6.symm,?_,e1.symm,?_⟩
 ·have:=congrArg List.length h4;simpa using this.symm
 ·simp only[Ex.ch,List.map_append,List.map_map,Function.comp_def];rw[h4,e2]
theorem VJ{a b:Ex}(hN:a.aD.length≤1000)(hv:∀x∈a.aD,x.vars.length≤1000)(he:b.aD.map (fun x=>(x.cZ,x.vars))=a.aD.map (fun x=>(x.cZ,x.vars))):∀(n i:Nat),a.aD.length-i=n→i≤a.aD.length →
   cl AP g253L0 ⟨[(2,.az 2 0),(3,.az 3 0),(5,.pv (vI i))],[(2,a.cl),(3,b.cl)],[],[]⟩ =
     some (.exit 0,⟨[(2,.az 2 0),(3,.az 3 0),(5,.pv (vI a.aD.length)),(55,.pv (.bool false))],[(2,a.cl),(3,b.cl)],[],[]⟩)
 |0,i,hn,hi=>by
   have:i=a.aD.length:=by omega
   subst this;rw[g253L0e];simp[g253B0]
 |n+1,i,hn,hi=>by
   have hl:b.aD.length=a.aD.length:=by have:=congrArg List.length he;simpa using this
   have hi:i<a.aD.length:=(by omega);have hib:i<b.aD.length:=(by omega);obtain⟨x,hx⟩:=aV hi;obtain⟨y,hy⟩:=aV hib
   have hxy:y.cZ=x.cZ∧y.vars=x.vars:=by
     have:=congrArg (fun l=>l[i]?) he;simp only[List.getElem?_map,hx,hy,Option.map_some,Option.some.injEq,Prod.mk.injEq]at this;exact this
   obtain⟨hc,hvv⟩:=hxy;have k:=c266 (s:=x.vars) (by have:=hv x (aR hx);omega);have ih:=VJ hN hv he n (i+1) (by omega) (by omega);rw[g253L0e]at ih⊢;simp at ih k;simp (disch:=omega) [-getElem?_pos,g253B0,hx,hy,hi,hib,hc,hvv,k,ah];rw[g253L0e];simp[ih]
theorem c253(a:Ex):∀b:Ex,a.Ok→b.Ok→a.strip=b.strip→(aC AP).p 253 [a.pv,b.pv]=some [.bool true]:=by
 refine Ex.recC (p:=fun a=>∀b:Ex,a.Ok→b.Ok→a.strip=b.strip→(aC AP).p 253 [a.pv,b.pv]=some [.bool true]) ?_ a;intro a ih b ha hb h;obtain⟨h1,h2,h3,h4,h5,h6,h7⟩:=JO h;have hla:b.aD.length=a.aD.length:=by have:=congrArg List.length h6;simpa using this
 have hlc:b.ch.length=a.ch.length:=by have:=congrArg List.length h7;simpa using this
 have hN:a.ch.length≤1000000:=by rw[Ex.dQ];have:=ha.k;have:=ha.a;omega
 have k1:=c20 (a:=a.ty) (b:=b.ty) ha.t;rw[h4,decide_eq_true rfl]at k1;have k2:=c145 ha;have k3:=c145 hb
 have k4:=c267 (a:=a.ch) (b:=b.ch) hN hlc (fun i x y hx hy=>by
   refine ih x (aR hx) y (ha.c x (aR hx)) (hb.c y (aR hy)) ?_;have:=congrArg (fun l=>l[i]?) h7;simp only[List.getElem?_map,hx,hy,Option.map_some,Option.some.injEq]at this;exact this.symm)
 have e:=VJ ha.a ha.v h6 _ 0 rfl (by omega);rw[ae (af:=g253) rfl rfl (by decide)];rw[g253L0e]at e;simp[h1,h2,h3,h4]at e k1 k2 k3 k4;simp[g253,h1,h2,h3,h4,h5,hla,k1,g253L0e,e,k2,k3,k4]
def Wh(ds:List Dt):Prop:=ds.length≤1000∧∀d∈ds,d.params.length≤1000∧d.cons.length≤1000∧∀c∈d.cons,Sm c.fields∧∀t∈c.fields,t.Ok
def VK(bs:List Bd):Prop:=bs.length≤1000∧∀b∈bs,b.sig.Ok∧b.body.Ok
theorem QS{P Q:List AV}{x y:Dt}{i:Nat}(hN:x.cons.length≤1000)(hf:∀c∈x.cons,Sm c.fields∧∀t∈c.fields,t.Ok)(he:y.cons.map cR.p0=x.cons.map cR.p0)
   (hP:∃a b,P=jV a b) (hQ:∃a b,Q=jV a b):∀(n k:Nat),x.cons.length-k=n→k≤x.cons.length →
   cl AP g538L1 ⟨[(2,.az 2 0),(3,.az 3 0),(5,.pv (vI i)),(6,.az 6 0),(7,.az 7 0),(8,.pv (vI k))],[(2,P),(3,Q),(6,x.cells.map .pv),(7,y.cells.map .pv)],[],[]⟩ =
     some (.exit 2,⟨[(2,.az 2 0),(3,.az 3 0),(5,.pv (vI i)),(6,.az 6 0),(7,.az 7 0),(8,.pv (vI x.cons.length)),(71,.pv (.bool false))],[(2,P),(3,Q),(6,x.cells.map .pv),(7,y.cells.map .pv)],[],[]⟩)
 |0,k,hn,hk=>by
   have:k=x.cons.length:=by omega
   subst this;obtain⟨a,b,rfl⟩:=hP;obtain⟨c,d,rfl⟩:=hQ;rw[g538L1e];simp[g538B1,jV,Dt.cells]
 |n+1,k,hn,hk=>by
   have hl:y.cons.length=x.cons.length:=by have:=congrArg List.length he;simpa using this
   have hk:k<x.cons.length:=(by omega);have hkb:k<y.cons.length:=(by omega);obtain⟨u,hu⟩:=aV hk;obtain⟨v,hv⟩:=aV hkb
   have huv:v.name=u.name∧v.fields=u.fields:=by
     have:=congrArg (fun l=>l[k]?) he;simp only[List.getElem?_map,hu,hv,Option.map_some,Option.some.injEq,cR.p0,cR.mk.injEq,true_and]at this;exact this
   obtain⟨q1,q2⟩:=huv;obtain⟨f1,f2⟩:=hf u (aR hu);have c:=c57 (as:=u.fields) (bs:=u.fields) f1 fun t ht y=>c20 (f2 t ht)
   have ih:=QS (i:=i) hN hf he hP hQ n (k+1) (by omega) (by omega);obtain⟨a,b,rfl⟩:=hP;obtain⟨a',b',rfl⟩:=hQ;rw[g538L1e]at ih⊢;simp[jV,Dt.cells]at ih c;simp (disch:=omega) [-getElem?_pos,g538B1,jV,Dt.cells,hu,hv,hk,hkb,q1,q2,c,ah];rw[g538L1e];simp[ih]
theorem QT{ds es:List Dt}{bs cs:List Bd}(H:Wh ds)(he:es.map Dt.strip=ds.map Dt.strip):∀(n i:Nat),ds.length-i=n→i≤ds.length →
   cl AP g538L0 ⟨[(2,.az 2 0),(3,.az 3 0),(5,.pv (vI i))],[(2,jV ds bs),(3,jV es cs)],[],[]⟩ =
     some (.exit 0,⟨[(2,.az 2 0),(3,.az 3 0),(5,.pv (vI ds.length)),(32,.pv (.bool false))],[(2,jV ds bs),(3,jV es cs)],[],[]⟩)
 |0,i,hn,hi=>by
   have:i=ds.length:=by omega
   subst this;rw[g538L0e];simp[g538B0,jV]
 |n+1,i,hn,hi=>by
   have hN:=H.1;have hl:es.length=ds.length:=by have:=congrArg List.length he;simpa using this
   have hi:i<ds.length:=(by omega);have hib:i<es.length:=(by omega);obtain⟨x,hx⟩:=aV hi;obtain⟨y,hy⟩:=aV hib
   have hxy:y.name=x.name∧y.params=x.params∧y.cons.map cR.p0=x.cons.map cR.p0:=by
     have:=congrArg (fun l=>l[i]?) he;simp only[List.getElem?_map,hx,hy,Option.map_some,Option.some.injEq,Dt.strip,Dt.mk.injEq,true_and]at this;exact this
   obtain⟨q1,q2,q3⟩:=hxy;obtain⟨p1,p2,p3⟩:=H.2 x (aR hx);have hlc:y.cons.length=x.cons.length:=by have:=congrArg List.length q3;simpa using this
   have c:=c266 (s:=x.params) (by omega);have e:=QS (P:=jV ds bs) (Q:=jV es cs) (i:=i) p2 p3 q3 ⟨_,_,rfl⟩ ⟨_,_,rfl⟩ _ 0 rfl (by omega);have ih:=QT (bs:=bs) (cs:=cs) H he n (i+1) (by omega) (by omega);rw[g538L1e]at e;rw[g538L0e]at ih⊢;simp[jV,Dt.cells,q1,q2]at ih c e;simp (disch:=omega) [-getElem?_pos,g538B0,jV,hx,hy,hi,hib,q1,q2,hlc,c,ah,g538L1e,e];rw[g538L0e];simp[ih]
theorem QU{ds es:List Dt}{bs cs:List Bd}(H:VK bs)(H2:VK cs)(he:cs.map Bd.strip=bs.map Bd.strip):∀(n i:Nat),bs.length-i=n→i≤bs.length →
   cl AP g538L2 ⟨[(2,.az 2 0),(3,.az 3 0),(9,.pv (vI i))],[(2,jV ds bs),(3,jV es cs)],[],[]⟩ =
     some (.exit 4,⟨[(2,.az 2 0),(3,.az 3 0),(9,.pv (vI bs.length)),(107,.pv (.bool false))],[(2,jV ds bs),(3,jV es cs)],[],[]⟩)
 |0,i,hn,hi=>by
   have:i=bs.length:=by omega
   subst this;rw[g538L2e];simp[g538B2,jV]
 |n+1,i,hn,hi=>by
   have hN:=H.1;have hl:cs.length=bs.length:=by have:=congrArg List.length he;simpa using this
   have hi:i<bs.length:=(by omega);have hib:i<cs.length:=(by omega);obtain⟨x,hx⟩:=aV hi;obtain⟨y,hy⟩:=aV hib
   have hxy:y.rc=x.rc∧y.name=x.name∧y.sg=x.sg∧y.sig=x.sig∧y.body.strip=x.body.strip:=by
     have:=congrArg (fun l=>l[i]?) he;simp only[List.getElem?_map,hx,hy,Option.map_some,Option.some.injEq,Bd.strip,Bd.mk.injEq,true_and]at this;exact this
   obtain⟨q1,q2,q3,q4,q5⟩:=hxy;obtain⟨p1,p2⟩:=H.2 x (aR hx);have c1:=c20 (a:=x.sig) (b:=x.sig) p1;rw[decide_eq_true rfl]at c1;have c2:=c253 x.body y.body p2 (H2.2 y (aR hy)).2 q5.symm;have ih:=QU (ds:=ds) (es:=es) H H2 he n (i+1) (by omega) (by omega);rw[g538L2e]at ih⊢;simp[jV]at ih c1 c2;simp (disch:=omega) [-getElem?_pos,g538B2,jV,hx,hy,hi,hib,q1,q2,q3,q4,c1,c2,ah];rw[g538L2e];simp[ih]
theorem c538{ds es:List Dt}{bs cs:List Bd}(H:Wh ds)(K:VK bs)(K2:VK cs)(h1:es.map Dt.strip=ds.map Dt.strip)(h2:cs.map Bd.strip=bs.map Bd.strip) :
   (aC AP).p 538 [.agg [.au (ds.map Dt.pv),.au (bs.map Bd.pv)],.agg [.au (es.map Dt.pv),.au (cs.map Bd.pv)]]=some [.bool true]:=by
 have l1:es.length=ds.length:=by have:=congrArg List.length h1;simpa using this
 have l2:cs.length=bs.length:=by have:=congrArg List.length h2;simpa using this
 have e1:=QT (bs:=bs) (cs:=cs) H h1 _ 0 rfl (by omega);have e2:=QU (ds:=ds) (es:=es) K K2 h2 _ 0 rfl (by omega);rw[ae (af:=g538) rfl rfl (by decide)];rw[g538L0e]at e1;rw[g538L2e]at e2;simp[jV]at e1 e2;simp[g538,l1,l2,g538L0e,e1,g538L2e,e2]
theorem ix(e:Ex):e.strip.strip=e.strip:=by
 refine Ex.recC (p:=fun e=>e.strip.strip=e.strip) ?_ e;intro e ih
 have h1:(e.kids.map Ex.strip).map Ex.strip=e.kids.map Ex.strip:=by
   rw[List.map_map];exact List.map_congr_left fun x hx=>ih x (by rw[Ex.ch,List.mem_append];exact .inl hx)
 have h2:(e.aD.map fun a=>(⟨0,a.cZ,a.vars,a.body.strip⟩:Ar)).map (fun a=>(⟨0,a.cZ,a.vars,a.body.strip⟩:Ar))=e.aD.map fun a=>⟨0,a.cZ,a.vars,a.body.strip⟩:=by
   rw[List.map_map];refine List.map_congr_left fun a ha=>?_;show (⟨0,a.cZ,a.vars,a.body.strip.strip⟩:Ar)=⟨0,a.cZ,a.vars,a.body.strip⟩
   rw[ih a.body (by rw[Ex.ch,List.mem_append,List.mem_map];exact .inr ⟨a,ha,rfl⟩)]
 rw[Ex.dG e.strip,db,iw,qT,d0,dc,kK,h1,h2,←Ex.dG]
theorem PQ(bs:List Bd):(bs.map Bd.strip).map Bd.strip=bs.map Bd.strip:=by
 rw[List.map_map];refine List.map_congr_left fun b _=>?_;show (⟨0,b.rc,b.name,b.sg,b.sig,b.body.strip.strip⟩:Bd)=⟨0,b.rc,b.name,b.sg,b.sig,b.body.strip⟩
 rw[ix]
theorem y9(ds:List Dt):(ds.map Dt.strip).map Dt.strip=ds.map Dt.strip:=by
 rw[List.map_map];refine List.map_congr_left fun d _=>?_;show (⟨0,d.name,d.params,(d.cons.map cR.p0).map cR.p0⟩:Dt)=⟨0,d.name,d.params,d.cons.map cR.p0⟩
 rw[List.map_map];rfl
theorem XC{ds:List Dt}(hD:rW ds):Wh ds∧∀d∈ds,d.cons≠[]∧d.cons.length≤1000:=by
 have key:∀d∈bz,d.params.length≤1000∧d.cons.length≤1000∧d.cons≠[]∧∀c∈d.cons,Sm c.fields∧∀t∈c.fields,t.Ok:=by
   intro d hd;obtain⟨a1,a2,a3⟩:=Jz hd;obtain⟨_,b1,_,_⟩:=yQ d hd;exact⟨by omega,by omega,by intro e;rw[e]at b1;simp at b1,fun c hc=>⟨by have:=(a3 c hc).1;unfold Sm;omega,(a3 c hc).2.1⟩⟩
 exact⟨⟨by have:=hD.len;omega,fun d hd=>by obtain⟨a,b,_,c⟩:=key d (hD.all d hd);exact⟨a,b,c⟩⟩,fun d hd=>by obtain⟨_,b,c,_⟩:=key d (hD.all d hd);exact⟨c,b⟩⟩
theorem Ny{ds:List Dt}{T:List Bd→bt}{bs:List Bd}{h:Int}{x:Ex}:(∃er:Int,er≠0∧jW ds T bs h x=[oN,vI er]) ∨
   ∃(i:Nat) (b:Bd) (p:List Int),bs[i]?=some b∧p∈b.body.hl∧jW ds T bs h x=[.agg [.au ((ds.map Dt.strip).map Dt.pv),.au ((bn bs i b p x).map Bd.pv)],vI 0]:=by
 unfold jW;cases he:(if h<0 then none else eN 0 bs h) with
 |none=>exact .inl ⟨16,by omega,rfl⟩
 |some r=>
   obtain⟨i,p⟩:=r
   have hf':eN 0 bs h=some (i,p):=by
     split at he
     ·cases he
     ·exact he
   obtain⟨j,b,hj,hb,hp⟩:=kJ hf';have:j=i:=by omega
   subst this;simp only[hb];split
   ·exact .inl ⟨17,by omega,rfl⟩
   split
   ·rename_i q;exact .inl ⟨_,q,rfl⟩
   split
   ·exact .inl ⟨4,by omega,rfl⟩
   split
   ·exact .inl ⟨4,by omega,rfl⟩
   split
   ·exact .inl ⟨1,by omega,rfl⟩
   exact .inr ⟨j,b,p,hb,hp,rfl⟩
def pt(x:Ex)(p:List Int)(e:Ex):Ex:=(Ex.dz x p e).1
theorem y_{e:Ex}{p:List Int}(h:p∈e.hl):(e.kind=10∧p=[])∨(e.kind≠10∧∃(i:Nat) (y:Ex) (q:List Int),e.ch[i]?=some y∧q∈y.hl∧p=(i:Int)::q):=by
 rw[Ex.nM]at h;split at h
 ·rename_i k;exact .inl ⟨k,by simpa using h⟩
 ·rename_i k;obtain⟨j,c,q,h1,h2,h3⟩:=sM h;rw[List.getElem?_map,Option.map_eq_some_iff]at h1;obtain⟨y,hy,rfl⟩:=h1;rw[Nat.zero_add]at h3;exact .inr ⟨k,j,y,q,hy,h2,h3⟩
theorem jX{x e y:Ex}{i:Nat}{q:List Int}(hy:e.ch[i]?=some y)(hq:q∈y.hl):pt x ((i:Int)::q) e=e.kq (e.ch.set i (pt x q y)):=by
 have hi:=(List.getElem?_eq_some_iff.1 hy).1;obtain⟨k,hk⟩:=List.getElem?_of_mem hq;have g1:=(Fs x y k q hk).1;unfold pt;rw[Ex.dz,if_pos ⟨by omega,by omega⟩,Int.toNat_natCast,hy];simp only;cases hp:Ex.dz x q y with
 |mk z b=>rw[hp]at g1;simp only at g1;subst g1;rfl
theorem sX{x e:Ex}{p q:List Int}(hp:p∈e.hl)(hq:q∈e.hl)(hn:p≠q):q∈(pt x p e).hl:=by
 obtain⟨k,hk⟩:=List.getElem?_of_mem hp;obtain⟨m,hm⟩:=List.getElem?_of_mem hq;unfold pt;rw[(Fs x e k p hk).2];rcases Nat.lt_trichotomy m k with h|h|h
 ·rw[List.mem_append];exact .inl (List.mem_of_getElem? (i:=m) (by rw[List.getElem?_take,if_pos h];exact hm))
 ·subst h;rw[hk]at hm;cases hm;exact absurd rfl hn
 ·rw[List.mem_append,List.mem_append];exact .inr (.inr (List.mem_of_getElem? (i:=m-(k+1)) (by rw[List.getElem?_drop,show k+1+(m-(k+1))=m by omega];exact hm)))
theorem xn:∀{as:List Ar} {l m:List Ex},l.length=as.length→m.length=as.length→dS (dS as l) m=dS as m
 |[],_,_,_,_=>by simp[uU]
 |_::_,[],_,h,_=>by simp at h
 |_::_,_,[],_,h=>by simp at h
 |a::as,x::l,y::m,h,k=>by simp only[dS,xn (as:=as) (l:=l) (m:=m) (by simpa using h) (by simpa using k)]
theorem mP{e:Ex}{c:List Ex}(h:c.length=e.ch.length):e.kq c=⟨e.kind,e.pos,e.name,e.num,c.take e.kids.length,dS e.aD (c.drop e.kids.length),e.ty⟩:=by
 rw[Ex.kq,if_pos (by rw[h,Ex.dQ])]
theorem iB{e:Ex}{c:List Ex}(h:c.length=e.ch.length):(e.kq c).ch=c:=uZ (by rw[h,Ex.dQ])
theorem sY{e:Ex}{c d:List Ex}(hc:c.length=e.ch.length)(hd:d.length=e.ch.length):(e.kq c).kq d=e.kq d:=by
 have w:(e.kq c).ch.length=d.length:=by rw[iB hc,hc,hd]
 have l:=Ex.dQ (e:=e);rw[mP w.symm,mP hd,mP hc];simp only[List.length_take];rw[show min e.kids.length c.length=e.kids.length by omega,xn (by simp;omega) (by simp;omega)]
theorem PR{e:Ex}{c:List Ex}(h:c.length=e.ch.length):(e.kq c).aD.map (fun a=>(a.cZ,a.vars))=e.aD.map fun a=>(a.cZ,a.vars):=by
 rw[mP h];exact sQ
theorem vq{e f:Ex}{i:Nat}(hk:f.kind=e.kind)(hn:f.name=e.name)(ha:f.aD.map (fun a=>(a.cZ,a.vars))=e.aD.map fun a=>(a.cZ,a.vars)):fy f i=fy e i:=by
 have key:∀g:Ex,fy g i=if g.kind=4∨g.kind=7∨(g.kind=6∧i=1) then [g.name] else if g.kind=8∧0<i then (match (g.aD.map fun a=>(a.cZ,a.vars))[i-1]? with|some a=>a.2|none=>[]) else []:=by
   intro g;unfold fy;rw[List.getElem?_map];cases g.aD[i-1]?<;>rfl
 rw[key f,key e,hk,hn,ha]
theorem Gt(x y e:Ex):∀p q:List Int,p∈e.hl→q∈e.hl→p≠q→pt x p (pt y q e)=pt y q (pt x p e)∧(pt y q e).pN p=e.pN p:=by
 refine Ex.recC (p:=fun e=>∀p q:List Int,p∈e.hl→q∈e.hl→p≠q→pt x p (pt y q e)=pt y q (pt x p e)∧(pt y q e).pN p=e.pN p) ?_ e;intro e ih p q hp hq hn;rcases y_ hp with⟨k,rfl⟩|⟨k,i,a,p,ha,hp',rfl⟩<;>rcases y_ hq with⟨k2,rfl⟩|⟨k2,j,b,q,hb,hq',rfl⟩
 ·exact absurd rfl hn
 ·exact absurd k k2
 ·exact absurd k2 k
 have hi:=(List.getElem?_eq_some_iff.1 ha).1;have hj:=(List.getElem?_eq_some_iff.1 hb).1;rw[jX hb hq',jX ha hp'];have l1:(e.ch.set j (pt y q b)).length=e.ch.length:=List.length_set;have l2:(e.ch.set i (pt x p a)).length=e.ch.length:=List.length_set;have v1:fy (e.kq (e.ch.set j (pt y q b))) i=fy e i:=vq (by rw[mP l1]) (by rw[mP l1]) (PR l1);simp only[Ex.pN,Int.toNat_natCast,v1,iB l1,ha];by_cases hij:i=j
 · subst hij;rw[ha]at hb;cases hb;have hpq:p≠q:=fun h=>hn (by rw[h])
   obtain⟨c1,c2⟩:=ih a (aR ha) p q hp' hq' hpq;have g1:(e.kq (e.ch.set i (pt y q a))).ch[i]?=some (pt y q a):=by rw[iB l1,List.getElem?_set_self hi]
   have g2:(e.kq (e.ch.set i (pt x p a))).ch[i]?=some (pt x p a):=(by rw[iB l2,List.getElem?_set_self hi]);rw[jX g1 (sX hq' hp' (Ne.symm hpq)),jX g2 (sX hp' hq' hpq),iB l1,iB l2,sY l1 (by simp),sY l2 (by simp),List.set_set,List.set_set,c1,List.getElem?_set_self hi];exact⟨rfl,by simp only[c2]⟩
 ·have g1:(e.kq (e.ch.set j (pt y q b))).ch[i]?=some a:=(by rw[iB l1,List.getElem?_set_ne (Ne.symm hij)];exact ha);have g2:(e.kq (e.ch.set i (pt x p a))).ch[j]?=some b:=(by rw[iB l2,List.getElem?_set_ne hij];exact hb);rw[jX g1 hp',jX g2 hq',iB l1,iB l2,sY l1 (by simp),sY l2 (by simp),List.set_comm _ _ hij,List.getElem?_set_ne (Ne.symm hij),ha];exact⟨rfl,rfl⟩
theorem Ci:∀{as:List Ar} {l:List Ex},l.length=as.length→(dS as l).map (fun a=>(⟨0,a.cZ,a.vars,a.body.strip⟩:Ar))=dS (as.map fun a=>(⟨0,a.cZ,a.vars,a.body.strip⟩:Ar)) (l.map Ex.strip)
 |[],l,_=>by simp[uU]
 |a::as,[],h=>by simp at h
 |a::as,x::l,h=>by simp only[dS,List.map_cons,Ci (as:=as) (l:=l) (by simpa using h)]
theorem JP{e:Ex}{c:List Ex}(h:c.length=e.ch.length):(e.kq c).strip=e.strip.kq (c.map Ex.strip):=by
 have l:=Ex.dQ (e:=e);have h2:(c.map Ex.strip).length=e.strip.ch.length:=by rw[iv,List.length_map,List.length_map,h]
 rw[mP h,mP h2,Ex.dG,db,iw,qT,d0,dc,kK];simp only[List.length_map,List.map_take];rw[Ci (by simp;omega),List.map_drop,Ex.dG e]
theorem Cj(x e:Ex):∀p∈e.hl,(pt x p e).strip=pt x.strip p e.strip:=by
 refine Ex.recC (p:=fun e=>∀p∈e.hl,(pt x p e).strip=pt x.strip p e.strip) ?_ e;intro e ih p hp;rcases y_ hp with⟨k,rfl⟩|⟨k,i,a,p,ha,hp',rfl⟩
 ·rfl
 have ha':e.strip.ch[i]?=some a.strip:=by rw[iv,List.getElem?_map,ha];rfl
 rw[jX ha hp',jX ha' (by rw[ew];exact hp'),JP (by simp),List.map_set,ih a (aR ha) p hp',iv]
theorem qU:∀{p:List Int} {e:Ex},e.strip.pN p=e.pN p
 |[],_=>rfl
 |i::p,e=>by
   have b:fy e.strip i.toNat=fy e i.toNat:=vq (db e) (iw e) (by rw[dc,List.map_map];rfl);simp only[Ex.pN,b,iv,List.getElem?_map];cases e.ch[i.toNat]? with
   |none=>rfl
   |some x=>simp only[Option.map_some,qU (p:=p) (e:=x)]
theorem sZ{e:Ex}{p:List Int}(h:p∈e.hl):BI e p=dv (e.pN p):=by
 obtain⟨_,x,hx,_⟩:=sN e p h;unfold BI;rw[hx]
theorem xp:∀{l:List (List (List Int))} {s:Nat},(∀c∈l,c.Nodup)→(lW s l).Nodup
 |[],_,_=>List.nodup_nil
 |a::r,s,h=>by
   simp only[lW];rw[List.nodup_append];refine⟨?_,xp fun c hc=>h c (by simp[hc]),?_⟩
   ·have:=h a (by simp);rw[List.Nodup,List.pairwise_map];exact this.imp fun q e=>q (by simpa using e)
   ·intro p hp q hq e;subst e;rw[List.mem_map]at hp;obtain⟨u,_,rfl⟩:=hp;obtain⟨j,c,w,_,_,e⟩:=sM hq;have:=(List.cons.inj e).1;omega
theorem Nz(e:Ex):e.hl.Nodup:=by
 refine Ex.recC (p:=fun e=>e.hl.Nodup) ?_ e;intro e ih;rw[Ex.nM];split
 ·simp
 ·refine xp fun c hc=>?_;rw[List.mem_map]at hc;obtain⟨x,hx,rfl⟩:=hc;exact ih x hx
def ey:Nat→List Bd→List (Nat×List Int)
 |_,[]=>[]
 |s,b::r=>b.body.hl.map (fun p=>(s,p))++ey (s+1) r
theorem nv:∀{bs:List Bd} {s:Nat} {h:Nat},eN s bs (h:Int)=(ey s bs)[h]?
 |[],_,_=>by simp[eN,ey]
 |b::r,s,h=>by
   simp only[eN,ey];rw[List.getElem?_append,List.length_map];by_cases q:h<b.body.hl.length
   ·rw[if_pos (by omega),if_pos q,Int.toNat_natCast,List.getElem?_map]
   ·rw[if_neg (by omega),if_neg q,show (h:Int)-(b.body.hl.length:Int)=((h-b.body.hl.length:Nat):Int) by omega,nv (bs:=r)]
theorem vt:∀{bs:List Bd} {s:Nat},(ey s bs).length=Fm bs
 |[],_=>by simp[ey,Fm]
 |b::r,s=>by
   have:=vt (bs:=r) (s:=s+1);simp only[ey,List.length_append,List.length_map,this];simp[Fm]
theorem vu:∀{bs:List Bd} {s:Nat},ey s (bs.map Bd.strip)=ey s bs
 |[],_=>rfl
 |b::r,s=>by
   simp only[List.map_cons,ey,vu (bs:=r)];show b.body.strip.hl.map _++_=_;rw[ew]
theorem za:∀{bs:List Bd} {s k i:Nat} {p:List Int},(ey s bs)[k]?=some (i,p)→s≤i
 |[],_,_,_,_,h=>by simp[ey]at h
 |b::r,s,k,i,p,h=>by
   simp only[ey]at h;rw[List.getElem?_append]at h;split at h
   ·rw[List.getElem?_map,Option.map_eq_some_iff]at h;obtain⟨q,_,e⟩:=h;cases e;omega
   ·have:=za h;omega
theorem s7:∀{bs:List Bd} {s k j:Nat} {p:List Int} {b:Bd},(ey s bs)[k]?=some (s+j,p)→bs[j]?=some b→∃k',b.body.hl[k']?=some p∧k=(ey s (bs.take j)).length+k'
 |[],_,_,_,_,_,_,h=>by simp at h
 |c::r,s,k,j,p,b,h,hb=>by
   simp only[ey]at h;rw[List.getElem?_append,List.length_map]at h;split at h
   · rename_i q;rw[List.getElem?_map,Option.map_eq_some_iff]at h;obtain⟨u,hu,e⟩:=h;obtain⟨e1,rfl⟩:=Prod.mk.inj e;have:j=0:=by omega
     subst this;simp at hb;subst hb;exact⟨k,hu,by simp[ey]⟩
   ·rename_i q;have g:=za h;obtain⟨j,rfl⟩:∃j',j=j'+1:=⟨j-1,by omega⟩;rw[show s+(j+1)=s+1+j by omega]at h;obtain⟨k',h1,h2⟩:=s7 h (by simpa using hb);exact⟨k',h1,by simp only[List.take_succ_cons,ey,List.length_append,List.length_map];omega⟩
theorem qV{x:Ex}:∀{bs:List Bd} {s k j:Nat} {p:List Int} {b:Bd},(ey s bs)[k]?=some (s+j,p)→bs[j]?=some b →
   ey s ((bs.map Bd.strip).set j (b.rp (pt x.strip p b.body.strip)))=(ey s bs).take k++(x.hl.map (fun q=>(s+j,p++q))++(ey s bs).drop (k+1))
 |[],_,_,_,_,_,_,h=>by simp at h
 |c::r,s,k,j,p,b,h,hb=>by
   simp only[ey]at h;rw[List.getElem?_append,List.length_map]at h;split at h
   · rename_i q;rw[List.getElem?_map,Option.map_eq_some_iff]at h;obtain⟨u,hu,e⟩:=h;obtain⟨e1,rfl⟩:=Prod.mk.inj e;have:j=0:=by omega
     subst this;simp at hb;subst hb;simp only[List.map_cons,List.set_cons_zero,ey,vu]
     have hp:(c.rp (pt x.strip u c.body.strip)).body.hl=c.body.hl.take k++(x.hl.map (fun w=>u++w)++c.body.hl.drop (k+1)):=by
       have:=(Fs x.strip c.body.strip k u (by rw[ew];exact hu)).2;rw[ew,ew]at this;exact this
     rw[hp,List.take_append_of_le_length (by rw[List.length_map];omega),List.drop_append_of_le_length (by rw[List.length_map];omega)];simp only[List.map_append,List.map_map,List.map_take,List.map_drop,List.append_assoc,Function.comp_def,Nat.add_zero]
   ·rename_i q;have g:=za h;obtain⟨j,rfl⟩:∃j',j=j'+1:=⟨j-1,by omega⟩;rw[show s+(j+1)=s+1+j by omega]at h⊢;have ih:=qV (x:=x) h (by simpa using hb);simp only[List.map_cons,List.set_cons_succ,ey,ih];have hc:(Bd.strip c).body.hl=c.body.hl:=ew c.body;rw[hc,List.take_append,List.drop_append,List.take_of_length_le (l:=List.map _ _) (by rw[List.length_map];omega),List.drop_eq_nil_of_le (as:=List.map _ _) (by rw[List.length_map];omega)];simp only[List.length_map,List.nil_append,List.append_assoc,show k+1-c.body.hl.length=k-c.body.hl.length+1 by omega]
theorem xq{bs:List Bd}{i:Nat}{b:Bd}{p:List Int}{x:Ex}(hp:p∈b.body.hl):(bn bs i b p x).map Bd.strip=bn bs i b p x:=by
 unfold bn;rw[List.map_set,PQ];congr 1;have:=Cj x.strip b.body.strip p (by rw[ew];exact hp);rw[ix,ix]at this;show (⟨0,b.rc,b.name,b.sg,b.sig,(pt x.strip p b.body.strip).strip⟩:Bd)=_;rw[this];rfl
theorem ny{bs:List Bd}{i j:Nat}{b c:Bd}{p q:List Int}{x:Ex}(hb:bs[i]?=some b)(hc:bs[j]?=some c)(hp:p∈b.body.hl)(hq:q∈c.body.hl)(hn:i=j→p≠q) :
   ∃d,(bn bs i b p x)[j]?=some d∧q∈d.body.hl∧lU (bn bs i b p x) j d q=lU bs j c q∧(∀r,d.rp r=c.rp r)∧(d.body.strip=d.body)∧d.body=if i=j then pt x.strip p c.body.strip else c.body.strip:=by
 have hi:=(List.getElem?_eq_some_iff.1 hb).1;have hj:=(List.getElem?_eq_some_iff.1 hc).1
 have names:∀k≤bs.length,((bn bs i b p x).take k).map Bd.name=(bs.take k).map Bd.name:=by
   intro k _
   have:(bn bs i b p x).map Bd.name=bs.map Bd.name:=by
     unfold bn;rw[List.map_set,List.map_map];have e:bs.map (Bd.name ∘ Bd.strip)=bs.map Bd.name:=rfl;rw[e];exact Nx (by rw[List.getElem?_map,hb];rfl)
   rw[List.map_take,this,List.map_take]
 by_cases h:i=j
 · subst h;rw[hb]at hc;cases hc;have hpq:=hn rfl;have hp':p∈b.body.strip.hl:=by rw[ew];exact hp
   have hq':q∈b.body.strip.hl:=(by rw[ew];exact hq);refine⟨b.rp (pt x.strip p b.body.strip),?_,sX hp' hq' hpq,?_,fun r=>rfl,?_,by rw[if_pos rfl];rfl⟩
   ·unfold bn;rw[List.getElem?_set_self (by rw[List.length_map];exact hi)];rfl
   ·have v:=(Gt x.strip x.strip b.body.strip q p hq' hp' (Ne.symm hpq)).2;unfold lU;rw[names i (by omega),sZ hq,sZ (e:=(b.rp (pt x.strip p b.body.strip)).body) (sX hp' hq' hpq)];show _++(_++dv ((pt x.strip p b.body.strip).pN q))=_;rw[v,qU];rfl
   ·have:=Cj x.strip b.body.strip p hp';rw[ix,ix]at this;exact this
 · refine⟨c.strip,?_,by show q∈c.body.strip.hl;rw[ew];exact hq,?_,fun r=>rfl,ix _,by rw[if_neg h];rfl⟩
   ·unfold bn;rw[List.getElem?_set_ne h,List.getElem?_map,hc];rfl
   ·unfold lU;rw[names j (by omega),sZ hq,sZ (e:=c.strip.body) (by show q∈c.body.strip.hl;rw[ew];exact hq)];show _++(_++dv (c.body.strip.pN q))=_;rw[qU];rfl
theorem JQ{bs:List Bd}{i j:Nat}{b c d f:Bd}{p q:List Int}{x y:Ex}(hb:bs[i]?=some b)(hc:bs[j]?=some c)(hp:p∈b.body.hl)(hq:q∈c.body.hl)(hn:i=j→p≠q)
   (hd:(bn bs i b p x)[j]?=some d) (hf:(bn bs j c q y)[i]?=some f) :
   bn (bn bs i b p x) j d q y=bn (bn bs j c q y) i f p x ∧
   (if i=j then pt y.strip q d.body.strip=pt x.strip p f.body.strip else pt y.strip q d.body.strip=pt y.strip q c.body.strip∧pt x.strip p f.body.strip=pt x.strip p b.body.strip):=by
 obtain⟨d',d1,d2,_,d4,d5,d6⟩:=ny (x:=x) hb hc hp hq hn;obtain⟨f',f1,f2,_,f4,f5,f6⟩:=ny (x:=y) hc hb hq hp (fun h=>(hn h.symm).symm);rw[hd]at d1;cases d1;rw[hf]at f1;cases f1
 have e1:bn (bn bs i b p x) j d q y=(bn bs i b p x).set j (c.rp (pt y.strip q d.body.strip)):=by
   rw[bn,xq hp,d4];rfl
 have e2:bn (bn bs j c q y) i f p x=(bn bs j c q y).set i (b.rp (pt x.strip p f.body.strip)):=by
   rw[bn,xq hq,f4];rfl
 rw[e1,e2,d5,f5,d6,f6];by_cases h:i=j
 ·subst h;rw[hb]at hc;cases hc;have cm:=(Gt x.strip y.strip b.body.strip p q (by rw[ew];exact hp) (by rw[ew];exact hq) (hn rfl)).1;simp only[if_true,bn,List.set_set];exact⟨by rw[cm],cm.symm⟩
 ·rw[if_neg h,if_neg (Ne.symm h)];refine⟨?_,by rw[if_neg h];exact⟨rfl,rfl⟩⟩;show (List.set _ i (b.rp (pt x.strip p b.body.strip))).set j _=(List.set _ j (c.rp (pt y.strip q c.body.strip))).set i _;rw[List.set_comm _ _ h]
theorem vv{α β:Type}{f:α→β}{p:β→Bool}{q:α→Bool}(h:∀a,p (f a)=q a):∀{l:List α},bM p (l.map f)=bM q l
 |[]=>rfl
 |a::r=>by simp only[List.map_cons,bM,h,vv h (l:=r)]
theorem oO{s:bt}:∀{ds:List Dt} {i:Nat},iu (ds.map Dt.strip) s i=iu ds s i
 |[],_=>rfl
 |d::r,i=>by
   have:yT (Dt.strip d).cons s=yT d.cons s:=vv fun _=>rfl;simp only[List.map_cons,iu,oO (ds:=r),this]
theorem Ft{s:bt}{ds:List Dt}:EV (ds.map Dt.strip) s=EV ds s:=by
 have:∀ds:List Dt,(ND (ds.map Dt.strip) s).map (·.params.length)=(ND ds s).map (·.params.length):=by
   intro ds;induction ds with
   |nil=>rfl
   |cons d r ih=>
     simp only[List.map_cons,ND];by_cases h:d.name=s
     ·rw[if_pos h,if_pos (show (Dt.strip d).name=s from h)];rfl
     ·rw[if_neg h,if_neg (show ¬(Dt.strip d).name=s from h),ih]
 unfold EV;rw[this]
theorem zc{ds:List Dt}{l:List bt}(t:Ty):t.formed (ds.map Dt.strip) l=t.formed ds l:=by
 refine Ty.dF (p:=fun t=>t.formed (ds.map Dt.strip) l=t.formed ds l) ?_ t;intro t ih;have h1:iX (ds.map Dt.strip) l t=iX ds l t:=by unfold iX;rw[Ft]
 have h2:∀as:List Ty,(∀x∈as,x.formed (ds.map Dt.strip) l=x.formed ds l)→Ty.eI (ds.map Dt.strip) l as=Ty.eI ds l as:=by
   intro as;induction as with
   |nil=>intro _;simp[Ty.eI]
   |cons a r ihr=>
     intro h;simp only[Ty.eI];rw[h a (by simp),ihr fun x hx=>h x (by simp[hx])]
 rw[Ty.qE,Ty.qE ds,h1,h2 _ ih]
theorem NA:∀{l:List cR} {as:List Ar},BO (l.map cR.p0) as=BO l as
 |[],as=>by simp[BO]
 |c::cs,[]=>by simp[BO]
 |c::cs,a::as=>by
   simp only[List.map_cons,BO,NA (l:=cs)];rfl
theorem Ck{ds:List Dt}{e:Ex}:nQ (ds.map Dt.strip) e=nQ ds e:=by
 have h1:∀as:List Ar,findF (ds.map Dt.strip) as=findF ds as:=by
   intro as;induction as with
   |nil=>rfl
   |cons a r ih=>simp only[findF,oO,ih]
 have h2:nP (ds.map Dt.strip) e.aD=nP ds e.aD:=vv fun d=>by
   unfold nO;have:(Dt.strip d).cons.map cR.name=d.cons.map cR.name:=by show (d.cons.map cR.p0).map cR.name=_;rw[List.map_map];rfl
   rw[this]
 unfold nQ;rw[h1,h2];cases findF ds e.aD with
 |some f=>rfl
 |none=>
   cases nP ds e.aD with
   |none=>rfl
   |some i=>
     simp only[List.getElem?_map];cases ds[i]? with
     |none=>rfl
     |some d=>exact NA
theorem xr{ds:List Dt}(e:Ex):∀N:List bt,e.aN (ds.map Dt.strip) N=e.aN ds N:=by
 refine Ex.recC (p:=fun e=>∀N:List bt,e.aN (ds.map Dt.strip) N=e.aN ds N) ?_ e;intro e ih N
 have h1:iY (ds.map Dt.strip) N e=iY ds N e:=by
   unfold iY;rw[oO,Ck,zc]
 rw[Ex.yV,Ex.yV ds,h1,qK fun i x hx=>ih x hx _]
theorem vw{bs:List Bd}(ho:∀b∈bs,oM 200 b){x:Ex}(hx:vp x){i:Nat}{b:Bd}{p:List Int}(hb:bs[i]?=some b):∀c∈bn bs i b p x,VF c:=by
 intro c hc;rcases List.mem_or_eq_of_mem_set hc with h|rfl
 ·rw[List.mem_map]at h;obtain⟨a,ha,rfl⟩:=h;have o:=ho a ha;exact⟨fG o.sc,iU (eR o.h) (by omega),o.so,o.sn,o.nm,o.st,by have:=o.w;show a.body.strip.sz≤_;rw[iM];omega,kL o.tx⟩
 ·have o:=ho b (aR hb);obtain⟨q1,q2,q3,q4⟩:=pW (fG hx.sc) (eR hx.hl) p b.body.strip 200 (fG o.sc) (eR o.h);have w1:=o.w;have w2:=hx.w;rw[iM,iM]at q4;exact⟨q1,q2,o.so,o.sn,o.nm,o.st,by show (Ex.dz x.strip p b.body.strip).1.sz≤_;omega,q3 (kL hx.tx) (kL o.tx)⟩
theorem Gu{ds:List Dt}{bs:List Bd}{h:Int}{x:Ex}(hD:rW ds)(hd:∀d∈ds,d.cons≠[]∧d.cons.length≤1000)(h4:bs.length≤4)(ho:∀b∈bs,VF b)(h1:h≤9223372036854775807)(hx:vp x) :
   y7 (ds.map Dt.strip) (Nu ds) bs h x:=Gs (y9 ds) hD (fun d hd'=>by
 rw[List.mem_map]at hd';obtain⟨a,ha,rfl⟩:=hd';obtain⟨q1,q2⟩:=hd a ha;exact⟨by show a.cons.map cR.p0≠[];simpa using q1,by show (a.cons.map cR.p0).length≤_;rw[List.length_map];exact q2⟩) h4 ho h1 hx
theorem p6{ds:List Dt}{T:List Bd→bt}{bs:List Bd}{k i:Nat}{x:Ex}{b:Bd}{p:List Int}(h:(ey 0 bs)[k]?=some (i,p))(hb:bs[i]?=some b) :
   jW ds T bs (k:Int) x=if x.Cr=false then [oN,vI 17] else if ¬(x.aN ds (dv (lU bs i b p))).1=0 then [oN,vI (x.aN ds (dv (lU bs i b p))).1]
     else if 40<(pt x.strip p b.body.strip).dp then [oN,vI 4] else if x.Cd=true then [oN,vI 4]
     else if 4000<(T (bn bs i b p x)).length then [oN,vI 1]
     else [.agg [.au ((ds.map Dt.strip).map Dt.pv),.au ((bn bs i b p x).map Bd.pv)],vI 0]:=by
 unfold jW;rw[if_neg (by omega),nv,h];simp only[hb];rfl
theorem PS{bs:List Bd}{k i j:Nat}{p q:List Int}{b c:Bd}(h1:(ey 0 bs)[k]?=some (i,p))(h2:(ey 0 bs)[k+1]?=some (j,q))(hb:bs[i]?=some b)(hc:bs[j]?=some c):i=j→p≠q:=by
 intro e f;subst e;subst f;rw[hb]at hc;cases hc;obtain⟨m,a1,a2⟩:=s7 (s:=0) (j:=i) (by rw[Nat.zero_add];exact h1) hb;obtain⟨n,c1,c2⟩:=s7 (s:=0) (j:=i) (by rw[Nat.zero_add];exact h2) hb;have:=(List.getElem?_inj (i:=m) (j:=n) (List.getElem?_eq_some_iff.1 a1).1 (Nz b.body)).1 (a1.trans c1.symm);omega
theorem PT{bs:List Bd}{k i:Nat}{p:List Int}{b:Bd}{x:Ex}(h:(ey 0 bs)[k]?=some (i,p))(hb:bs[i]?=some b):(ey 0 (bn bs i b p x))[k+x.hl.length]?=(ey 0 bs)[k+1]?:=by
 have hk:=(List.getElem?_eq_some_iff.1 h).1;have e:=qV (x:=x) (s:=0) (j:=i) (by rw[Nat.zero_add];exact h) hb;have e':ey 0 (bn bs i b p x)=_:=e;rw[e',List.getElem?_append_right (by rw[List.length_take];omega),List.getElem?_append_right (by rw[List.length_take,List.length_map];omega),List.getElem?_drop,List.length_take,List.length_map];congr 1;omega
theorem NB{bs:List Bd}{k m i:Nat}{p:List Int}{b:Bd}{x:Ex}(h:(ey 0 bs)[k]?=some (i,p))(hb:bs[i]?=some b)(hm:m<k):(ey 0 (bn bs i b p x))[m]?=(ey 0 bs)[m]?:=by
 have hk:=(List.getElem?_eq_some_iff.1 h).1;have e:=qV (x:=x) (s:=0) (j:=i) (by rw[Nat.zero_add];exact h) hb;have e':ey 0 (bn bs i b p x)=_:=e;rw[e',List.getElem?_append_left (by rw[List.length_take];omega),List.getElem?_take,if_pos hm]
theorem NC{bs:List Bd}{k i:Nat}{p:List Int}{b:Bd}(h:(ey 0 bs)[k]?=some (i,p))(hb:bs[i]?=some b):p∈b.body.hl:=by
 obtain⟨m,a1,_⟩:=s7 (s:=0) (j:=i) (by rw[Nat.zero_add];exact h) hb;exact aR a1
theorem JR{ds:List Dt}{T:List Bd→bt}{bs:List Bd}{k i j:Nat}{p q:List Int}{b c:Bd}(x y:Ex)(h1:(ey 0 bs)[k]?=some (i,p))(h2:(ey 0 bs)[k+1]?=some (j,q))(hb:bs[i]?=some b)(hc:bs[j]?=some c) :
   (∃er:Int,er≠0∧jW ds T bs (k:Int) x=[oN,vI er])∨(∃er:Int,er≠0∧jW ds T bs ((k+1:Nat):Int) y=[oN,vI er]) ∨
   (jW ds T bs (k:Int) x=[.agg [.au ((ds.map Dt.strip).map Dt.pv),.au ((bn bs i b p x).map Bd.pv)],vI 0]∧jW ds T bs ((k+1:Nat):Int) y=[.agg [.au ((ds.map Dt.strip).map Dt.pv),.au ((bn bs j c q y).map Bd.pv)],vI 0] ∧
     ∃(d:Bd) (R:List PV),(bn bs i b p x)[j]?=some d∧jW (ds.map Dt.strip) T (bn bs i b p x) ((k+x.hl.length:Nat):Int) y=R∧jW (ds.map Dt.strip) T (bn bs j c q y) (k:Int) x=R ∧
       ((∃er:Int,er≠0∧R=[oN,vI er])∨R=[.agg [.au ((ds.map Dt.strip).map Dt.pv),.au ((bn (bn bs i b p x) j d q y).map Bd.pv)],vI 0])):=by
 have hn:=PS h1 h2 hb hc;have hp:=NC h1 hb;have hq:=NC h2 hc;obtain⟨d,d1,d2,d3,d4,d5,d6⟩:=ny (x:=x) hb hc hp hq hn;obtain⟨f,f1,f2,f3,f4,f5,f6⟩:=ny (x:=y) hc hb hq hp (fun h=>(hn h.symm).symm);obtain⟨m1,m2⟩:=JQ hb hc hp hq hn d1 f1;have g1:=p6 (ds:=ds) (T:=T) (x:=x) h1 hb;have g2:=p6 (ds:=ds) (T:=T) (x:=y) h2 hc;have g3:=p6 (ds:=ds.map Dt.strip) (T:=T) (x:=y) ((PT (x:=x) h1 hb).trans h2) d1;have g4:=p6 (ds:=ds.map Dt.strip) (T:=T) (x:=x) ((NB (x:=y) h2 hc (Nat.lt_succ_self k)).trans h1) f1;rw[d3,xr,y9]at g3;rw[f3,xr,y9,←m1]at g4;by_cases v1:x.Cr=false
 ·rw[if_pos v1]at g1;exact .inl ⟨17,by omega,g1⟩
 rw[if_neg v1]at g1 g4;by_cases v2:(x.aN ds (dv (lU bs i b p))).1=0
 rotate_left
 ·rw[if_pos v2]at g1;exact .inl ⟨_,v2,g1⟩
 rw[if_neg (not_not_intro v2)]at g1 g4;by_cases w1:y.Cr=false
 ·rw[if_pos w1]at g2;exact .inr (.inl ⟨17,by omega,g2⟩)
 rw[if_neg w1]at g2 g3;by_cases w2:(y.aN ds (dv (lU bs j c q))).1=0
 rotate_left
 ·rw[if_pos w2]at g2;exact .inr (.inl ⟨_,w2,g2⟩)
 rw[if_neg (not_not_intro w2)]at g2 g3;by_cases v3:40<(pt x.strip p b.body.strip).dp
 ·rw[if_pos v3]at g1;exact .inl ⟨4,by omega,g1⟩
 rw[if_neg v3]at g1;by_cases w3:40<(pt y.strip q c.body.strip).dp
 ·rw[if_pos w3]at g2;exact .inr (.inl ⟨4,by omega,g2⟩)
 rw[if_neg w3]at g2;by_cases v4:x.Cd=true
 ·rw[if_pos v4]at g1;exact .inl ⟨4,by omega,g1⟩
 rw[if_neg v4]at g1 g4;by_cases w4:y.Cd=true
 ·rw[if_pos w4]at g2;exact .inr (.inl ⟨4,by omega,g2⟩)
 rw[if_neg w4]at g2 g3;split at g1
 ·exact .inl ⟨1,by omega,g1⟩
 split at g2
 ·exact .inr (.inl ⟨1,by omega,g2⟩)
 refine .inr (.inr ⟨g1,g2,d,_,d1,g3,?_,?_⟩)
 · rw[g4];by_cases e:i=j
   ·rw[if_pos e]at m2;rw[m2]
   ·rw[if_neg e]at m2;rw[m2.1,m2.2,if_neg v3,if_neg w3]
 · split
   ·exact .inl ⟨4,by omega,rfl⟩
   split
   ·exact .inl ⟨1,by omega,rfl⟩
   exact .inr rfl
theorem p7{bs:List Bd}{i:Nat}{b:Bd}{p:List Int}{x:Ex}:(bn bs i b p x).length=bs.length:=by unfold bn;rw[List.length_set,List.length_map]
theorem Sy(bits:Int)(L:List Int)(h:Int)(M:List Int):(aC AP).p 525 [vI bits,.au (L.map vI),vI h,.au (M.map vI)]=some [.bool true]:=by
 have c0:=c527;have c1:=c15 (l:=L);have c1m:=c15 (l:=M);rw[ae (af:=g525) rfl rfl (by decide)];by_cases hL:L.length≤60
 rotate_left
 ·simp[hL]at c1;simp[g525,c0,c1]
 by_cases hM:M.length≤60
 rotate_left
 ·simp[hL]at c1;simp[hM]at c1m;simp[g525,c0,c1,c1m]
 simp[hL]at c1;simp[hM]at c1m;obtain⟨ds,bs,hD,_,h4,ho1,e1⟩:=c306p (L:=L) (by unfold Sm;omega) bits;have ho:∀b∈bs,oM 200 b:=fun b hb=>(ho1 b hb).up (by omega)
 obtain⟨hdc,hdd⟩:=XC hD;have H:=XA h4 ho;have k1:=c529 (ds:=ds) H.h;have hc:=Si ho;have hc2:Fm bs≤56000000:=by omega
 by_cases hz:(Fm bs:Int)<2
 ·simp[g525,c0,c1,c1m,e1,k1,hz]
 have hM':Sm M:=by unfold Sm;omega
 have h8:ds.length≤8:=hD.len;have hA8:∀d∈ds,D8 d:=fun d hd=>yQ d (hD.all d hd)
 obtain⟨x,f1,f2,f3,j,e2,hx,hj⟩:=R7 (nr (L:=M)) hM' h8 hA8 1 (by omega) 0 (by omega);obtain⟨y,g1,g2,g3,j2,e3,hy,hj2⟩:=R7 (nr (L:=M)) hM' h8 hA8 1 (by omega) j hj;have hxf:=hx.fill hD (by omega);have hyf:=hy.fill hD (by omega);obtain⟨r,k3,r0,r1⟩:=c26 (n:=h) (m:=(Fm bs:Int)-1) (by omega) (by omega);obtain⟨k,rfl⟩:∃k:Nat,r=k:=⟨r.toNat,by omega⟩;have F1:=c536 (Nw hD hdd h4 ho (h:=(k:Int)) (by omega) hxf);have F2:=c536 (Nw hD hdd h4 ho (h:=((k+1:Nat):Int)) (by omega) hyf);have k4:=c539 x hxf.sc.ok (by have:=hxf.w;omega);have hxl:=Nat.le_trans (qG x) hxf.w;obtain⟨⟨i1,p1⟩,q1⟩:=aV (l:=ey 0 bs) (i:=k) (by rw[vt];omega);obtain⟨⟨i2,p2⟩,q2⟩:=aV (l:=ey 0 bs) (i:=k+1) (by rw[vt];omega)
 obtain⟨b1,hb1⟩:∃b,bs[i1]?=some b:=by
   have hf:eN 0 bs (k:Int)=some (i1,p1):=(by rw[nv,q1]);obtain⟨m,b,hm,hb,_⟩:=kJ hf;have:m=i1:=(by omega);exact⟨b,by rw[←this];exact hb⟩
 obtain⟨b2,hb2⟩:∃b,bs[i2]?=some b:=by
   have hf:eN 0 bs ((k+1:Nat):Int)=some (i2,p2):=(by rw[nv,q2]);obtain⟨m,b,hm,hb,_⟩:=kJ hf;have:m=i2:=(by omega);exact⟨b,by rw[←this];exact hb⟩
 have F3:=c536 (Gu hD hdd (by rw[p7];exact h4) (vw ho hxf (p:=p1) hb1) (h:=((k+x.hl.length:Nat):Int)) (by omega) hyf);have F4:=c536 (Gu hD hdd (by rw[p7];exact h4) (vw ho hyf (p:=p2) hb2) (h:=(k:Int)) (by omega) hxf);have TF:=JR (ds:=ds) (T:=Nu ds) x y q1 q2 hb1 hb2;have hA:=dR f1 f2 f3 x;have hB:=dR g1 g2 g3 y;generalize dZ f1 f2 f3 x=A at e2 hA;generalize dZ g1 g2 g3 y=B at e3 hB;have ac:=Ex.bm x;have bc:=Ex.bm y;have tA:List.take 11 A=A:=List.take_of_length_le (by rw[hA.len];omega);have tB:List.take 11 B=B:=List.take_of_length_le (by rw[hB.len];omega);have tn:=(nr (L:=M)).norm;have tsh:=(nr (L:=M)).shift
 have k5:∀d,(bn bs i1 b1 p1 x)[i2]?=some d→(aC AP).p 538 [.agg [.au ((ds.map Dt.strip).map Dt.pv),.au ((bn (bn bs i1 b1 p1 x) i2 d p2 y).map Bd.pv)],.agg [.au ((ds.map Dt.strip).map Dt.pv),.au ((bn (bn bs i1 b1 p1 x) i2 d p2 y).map Bd.pv)]]=some [.bool true]:=by
   intro d hd;have hE:=vw ho hxf (p:=p1) hb1
   have hs:VK (bn (bn bs i1 b1 p1 x) i2 d p2 y):=by
     refine⟨by rw[p7,p7];omega,fun c hc=>?_⟩;rcases List.mem_or_eq_of_mem_set hc with h|rfl
     ·rw[List.mem_map]at h;obtain⟨a,ha,rfl⟩:=h;exact⟨(hE a ha).so,pY (hE a ha).sc.ok⟩
     ·have o:=hE d (aR hd);exact⟨o.so,(pW (fG hyf.sc) (eR hyf.hl) p2 d.body.strip 300 (fG o.sc) (eR o.h)).1.ok⟩
   have hds:Wh (ds.map Dt.strip):=by
     obtain⟨a1,a2⟩:=hdc;refine⟨by rw[List.length_map];exact a1,fun d hd=>?_⟩;rw[List.mem_map]at hd;obtain⟨a,ha,rfl⟩:=hd;obtain⟨u1,u2,u3⟩:=a2 a ha;refine⟨u1,by show (a.cons.map cR.p0).length≤_;rw[List.length_map];exact u2,fun c hc=>?_⟩;have hc':c∈a.cons.map cR.p0:=hc;rw[List.mem_map]at hc';obtain⟨c',hc',rfl⟩:=hc';exact u3 c' hc'
   exact c538 hds hs hs rfl rfl
 have n1:(((k+1:Nat):Int))=(k:Int)+1:=by omega
 have n2:(((k+x.hl.length:Nat):Int))=(k:Int)+x.hl.length:=by omega
 rw[n1]at F2;rw[n2]at F3;simp at e2 e3 k4
 have sh:∀(T:List Bd→bt) (h:Int) (z:Ex),∃(u v:List PV) (n:Int),jW ds T bs h z=[.agg [.au u,.au v],vI n]:=by
   intro T h z;rcases Ny (ds:=ds) (T:=T) (bs:=bs) (h:=h) (x:=z) with⟨n,_,e⟩|⟨i,b,p,_,_,e⟩
   ·exact⟨[],[],n,e⟩
   ·exact⟨_,_,0,e⟩
 rw[n1,n2]at TF;clear n1 n2;rcases TF with⟨er,z1,t1⟩|⟨er,z1,t1⟩|⟨t1,t2,d,R,hd,t3,t4,t5⟩
 ·obtain⟨u,v,n,t2⟩:=sh (Nu ds) ((k:Int)+1) y;rw[t1]at F1;rw[t2]at F2;simp at F1 F2;simp (disch:=omega) [-getElem?_pos,g525,oN,c0,c1,c1m,e1,k1,hz,tn,tsh,e2,e3,k3,F1,F2,z1,hA.dd,hA.flat,hA.gH,hA.len,hA.leaf,hB.dd,hB.flat,hB.gH,hB.len,hB.leaf,tA,tB,ac,bc,ah]
 · obtain⟨u,v,n,t2⟩:=sh (Nu ds) (k:Int) x;rw[t2]at F1;rw[t1]at F2;simp at F1 F2;by_cases z2:n=0
   ·simp (disch:=omega) [-getElem?_pos,g525,oN,c0,c1,c1m,e1,k1,hz,tn,tsh,e2,e3,k3,F1,F2,z1,z2,hA.dd,hA.flat,hA.gH,hA.len,hA.leaf,hB.dd,hB.flat,hB.gH,hB.len,hB.leaf,tA,tB,ac,bc,ah]
   ·simp (disch:=omega) [-getElem?_pos,g525,oN,c0,c1,c1m,e1,k1,hz,tn,tsh,e2,e3,k3,F1,F2,z1,z2,hA.dd,hA.flat,hA.gH,hA.len,hA.leaf,hB.dd,hB.flat,hB.gH,hB.len,hB.leaf,tA,tB,ac,bc,ah]
 · rw[t1]at F1;rw[t2]at F2;rw[t3]at F3;rw[t4]at F4;have k6:=k5 d hd;clear k5 sh t1 t2 t3 t4;generalize bn (bn bs i1 b1 p1 x) i2 d p2 y=Z at *;generalize bn bs i1 b1 p1 x=B1 at *;generalize bn bs i2 b2 p2 y=B2 at *;generalize ds.map Dt.strip=D at *;rcases t5 with⟨er,z1,rfl⟩|rfl
   ·simp at F1 F2 F3 F4;simp (disch:=omega) [-getElem?_pos,g525,oN,c0,c1,c1m,e1,k1,hz,tn,tsh,e2,e3,k3,F1,F2,F3,F4,k4,z1,hA.dd,hA.flat,hA.gH,hA.len,hA.leaf,hB.dd,hB.flat,hB.gH,hB.len,hB.leaf,tA,tB,ac,bc,ah]
   ·simp at F1 F2 F3 F4 k6;simp (disch:=omega) [-getElem?_pos,g525,oN,c0,c1,c1m,e1,k1,hz,tn,tsh,e2,e3,k3,F1,F2,F3,F4,k4,k6,hA.dd,hA.flat,hA.gH,hA.len,hA.leaf,hB.dd,hB.flat,hB.gH,hB.len,hB.leaf,tA,tB,ac,bc,ah]
end Go.Ab.Lw
