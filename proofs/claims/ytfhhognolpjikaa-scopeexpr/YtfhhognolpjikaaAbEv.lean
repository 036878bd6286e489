import Derived.Test.YtfhhognolpjikaaAbLim
/-
  Rules for running slim code by the simplifier: each is an equation on constructors.
-/
set_option linter.unusedVariables false
set_option linter.unusedSimpArgs false
set_option maxRecDepth 100000
set_option maxHeartbeats 8000000
namespace Go.Ab.Ev
section
variable {AP:Nat→Option aC} {O:d0}
noncomputable def branch (AP:Nat→Option aC) (o:Option AV) (a b:aw) (st:St):Option (aO×St):=
 match o with
 | some (.pv (.bool t))=>if t=true then cl AP a st else cl AP b st
 | _=>none
theorem yb {c:d3} {a b:aw} {st:St}:cl AP (.cond c a b) st=branch AP (ff st.env c) a b st:=by
 unfold branch
 split
 · rename_i t h
   rw [Dw h]
 · rename_i h
   unfold cl
   refine nc fun k=>?_
   simp only [cV]
theorem rB {t:Bool} {a b:aw} {st:St}:branch AP (some (.pv (.bool t))) a b st=if t=true then cl AP a st else cl AP b st:=rfl
def nh (live:List Nat):Option St→Option (aO×St)
 | some st=>some (.normal,restrict live st)
 | none=>none
theorem yc {ops:List dt} {live:List Nat} {st:St}:cl AP (.ah ops live) st=nh live (bA (aW AP) ops st):=by
 rw [FJ]
 cases bA (aW AP) ops st<;>rfl
theorem rC {live:List Nat} {st:St}:nh live (some st)=some (.normal,restrict live st):=rfl
theorem tO {live:List Nat} {c:Prop} [Decidable c] {x y:Option St}:nh live (if c then x else y)=if c then nh live x else nh live y:=by split<;>rfl
theorem pI {f:St→Option (aO×St)} {st:St}:after f (some (.normal,st))=f st:=rfl
theorem yd {f:St→Option (aO×St)} {st:St}:after f (some (.ret,st))=some (.ret,st):=rfl
theorem tP {f:St→Option (aO×St)} {st:St} {id:Nat}:after f (some (.exit id,st))=some (.exit id,st):=rfl
theorem ye {f:St→Option (aO×St)} {c:Prop} [Decidable c] {x y:Option (aO×St)}:after f (if c then x else y)=if c then after f x else after f y:=by split<;>rfl
theorem pJ {id:Nat} {st:St}:leave id (some (.normal,st))=some (.normal,st):=rfl
theorem yf {id:Nat} {st:St}:leave id (some (.ret,st))=some (.ret,st):=rfl
theorem tQ {id id':Nat} {st:St}:leave id (some (.exit id',st))=if id'=id then some (.normal,st) else some (.exit id',st):=rfl
theorem yg {id:Nat} {c:Prop} [Decidable c] {x y:Option (aO×St)}:leave id (if c then x else y)=if c then leave id x else leave id y:=by split<;>rfl
def jz (O:d0) (l:List dt):Option St→Option St
 | some st=>bA O l st
 | none=>none
theorem yh {st:St}:bA O [] st=some st:=rfl
theorem iI {o:dt} {l:List dt} {st:St}:bA O (o::l) st=jz O l (dQ O o st):=by
 simp only [bA]
 cases dQ O o st<;>rfl
theorem tR {d:Option Nat} {args:List d3} {op:AK} {l:List dt} {st:St}:bA O (⟨d,none,args,op⟩::l) st=jz O l (dQ O ⟨d,none,args,op⟩ st):=iI
theorem pK {l:List dt} {st:St}:jz O l (some st)=bA O l st:=rfl
theorem rD {l:List dt} {c:Prop} [Decidable c] {x y:Option St}:jz O l (if c then x else y)=if c then jz O l x else jz O l y:=by split<;>rfl
def ni (d k:Option Nat) (env:List (Nat×AV)) (mem:List (Nat×List AV)):Option Out→Option St
 | some out=>some { env:=eU env d out.val,mem:=ew mem k out.cells,sh:=out.sh,aa:=out.aa }
 | none=>none
def A4 (O:d0) (op:AK) (vals:Option (List AV)) (cells:Option (List AV)) (sh:Sh) (aa:au):Option Out:=
 match vals with
 | some vals=>exec O op vals cells sh aa
 | none=>none
theorem tS {d:Option Nat} {args:List d3} {op:AK} {env:List (Nat×AV)} {mem:List (Nat×List AV)} {sh:Sh} {aa:au} :
   dQ O ⟨d,none,args,op⟩ ⟨env,mem,sh,aa⟩=ni d op.key env mem (A4 O op (dv env args) (op.key.bind (look mem)) sh aa):=by
 simp only [dQ,eh]
 cases dv env args with
 | none=>rfl
 | some vals=>
   dsimp only [A4]
   cases exec O op vals (op.key.bind (look mem)) sh aa<;>rfl
def nj (t:Nat) (b:Bool) (o:dt):dt:=
 match o.guard with
 | some (t',b')=>if t'=t then (if b'=b then { o with guard:=none } else ⟨o.dst,none,[.c .un],.v .mv⟩) else o
 | none=>o
def Dc (t:Nat):List dt→Bool
 | []=>true
 | o::l=>(o.dst != some t) && Dc t l
theorem jA {α:Type} {t t':Nat} {v:α}:∀{l:List (Nat×α)},look (db l t v) t'=if t'=t then some v else look l t'
 | []=>by
   simp only [db,look]
   by_cases h:t'=t
   · subst h;simp
   · rw [if_neg (fun e=>h e.symm),if_neg h]
 | (k,u)::r=>by
   simp only [db]
   by_cases hk:k=t
   · subst hk
     simp only [if_true,look]
     by_cases h:t'=k
     · subst h;simp
     · rw [if_neg (fun e=>h e.symm),if_neg h,if_neg (fun e=>h e.symm)]
   · rw [if_neg hk]
     simp only [look,jA (l:=r)]
     by_cases h:k=t'
     · subst h;simp [hk]
     · rw [if_neg h,if_neg h]
theorem lp {α:Type} {t:Nat} {v:α}:∀{l:List (Nat×α)},look l t=some v→db l t v=l
 | [],h=>by simp [look] at h
 | (k,u)::r,h=>by
   simp only [look] at h
   simp only [db]
   split at h
   · rename_i e;cases h;rw [if_pos e]
   · rename_i e;rw [if_neg e,lp h]
theorem yi {o:dt} {st st':St} {t:Nat} {v:AV} (hd:(o.dst != some t)=true) (h:look st.env t=some v) (e:dQ O o st=some st'):look st'.env t=some v:=by
 have key:∀x,look (eU st.env o.dst x) t=some v:=by
   intro x
   cases hdd:o.dst with
   | none=>exact h
   | some d=>
     rw [hdd] at hd
     simp only [eU,jA]
     rw [if_neg (by intro e;subst e;simp at hd)]
     exact h
 simp only [dQ] at e
 split at e
 · cases e
 · cases e;exact key _
 · split at e
   · cases e
   · split at e
     · cases e
     · cases e;exact key _
theorem yj {o:dt} {st:St} {t:Nat} {b:Bool} (h:look st.env t=some (.pv (.bool b))):dQ O o st=dQ O (nj t b o) st:=by
 obtain ⟨d,g,args,op⟩:=o
 cases g with
 | none=>rfl
 | some p=>
   obtain ⟨t',b'⟩:=p
   simp only [nj]
   by_cases ht:t'=t
   · subst ht
     rw [if_pos rfl]
     by_cases hb:b'=b
     · subst hb
       rw [if_pos rfl]
       simp only [dQ,eh,h,beq_self_eq_true]
     · rw [if_neg hb]
       have hb':(b == b')=false:=by simpa using fun e=>hb e.symm
       simp only [dQ,eh,h,hb']
       obtain ⟨env,mem,sh,aa⟩:=st
       rfl
   · rw [if_neg ht]
theorem ka {t:Nat} {b:Bool}:∀{l:List dt} {st:St},Dc t l=true→look st.env t=some (.pv (.bool b))→bA O l st=bA O (l.map (nj t b)) st
 | [],_,_,_=>rfl
 | o::l,st,hn,h=>by
   simp only [Dc,Bool.and_eq_true] at hn
   rw [List.map_cons,iI,iI,←yj h]
   cases e:dQ O o st with
   | none=>rfl
   | some st'=>exact ka hn.2 (yi hn.1 h e)
theorem rE {d:Option Nat} {t:Nat} {b:Bool} {args:List d3} {op:AK} {l:List dt} {env:List (Nat×AV)} {mem:List (Nat×List AV)} {sh:Sh} {aa:au} {c:Bool} (h:look env t=some (.pv (.bool c))) (hn:Dc t (⟨d,some (t,b),args,op⟩::l)=true) :
   bA O (⟨d,some (t,b),args,op⟩::l) ⟨env,mem,sh,aa⟩ =
     if c=true then bA O ((⟨d,some (t,b),args,op⟩::l).map (nj t true)) ⟨db env t (.pv (.bool true)),mem,sh,aa⟩
     else bA O ((⟨d,some (t,b),args,op⟩::l).map (nj t false)) ⟨db env t (.pv (.bool false)),mem,sh,aa⟩:=by
 cases c with
 | true=>rw [if_pos rfl,lp h];exact ka hn h
 | false=>rw [if_neg (by simp),lp h];exact ka hn h
theorem pL {d:Option Nat} {t:Nat} {b:Bool} {args:List d3} {op:AK} {l:List dt} {env:List (Nat×AV)} {mem:List (Nat×List AV)} {sh:Sh} {aa:au} (h:look env t=some .un) :
   bA O (⟨d,some (t,b),args,op⟩::l) ⟨env,mem,sh,aa⟩=bA O l ⟨eU env d .un,mem,sh,aa⟩:=by
 rw [iI]
 simp only [dQ,eh,h]
 rfl
noncomputable def gd (O:d0) (t:Nat) (ops:List dt) (d:Option Nat) (l:List dt) (env:List (Nat×AV)) (mem:List (Nat×List AV)) (sh:Sh) (aa:au):Option AV→Option St
 | some (.pv (.bool c))=>if Dc t ops=true then (if c=true then bA O (ops.map (nj t true)) ⟨db env t (.pv (.bool true)),mem,sh,aa⟩
     else bA O (ops.map (nj t false)) ⟨db env t (.pv (.bool false)),mem,sh,aa⟩) else bA O ops ⟨env,mem,sh,aa⟩
 | some .un=>bA O l ⟨eU env d .un,mem,sh,aa⟩
 | _=>bA O ops ⟨env,mem,sh,aa⟩
theorem A5 {d:Option Nat} {t:Nat} {b:Bool} {args:List d3} {op:AK} {l:List dt} {env:List (Nat×AV)} {mem:List (Nat×List AV)} {sh:Sh} {aa:au} :
   bA O (⟨d,some (t,b),args,op⟩::l) ⟨env,mem,sh,aa⟩=gd O t (⟨d,some (t,b),args,op⟩::l) d l env mem sh aa (look env t):=by
 unfold gd
 split
 · rename_i c h
   split
   · rename_i hn;exact rE h hn
   · rfl
 · rename_i h;exact pL h
 · rfl
theorem Dy {t:Nat} {ops:List dt} {d:Option Nat} {l:List dt} {env:List (Nat×AV)} {mem:List (Nat×List AV)} {sh:Sh} {aa:au} {c:Bool}:gd O t ops d l env mem sh aa (some (.pv (.bool c))) =
   if Dc t ops=true then (if c=true then bA O (ops.map (nj t true)) ⟨db env t (.pv (.bool true)),mem,sh,aa⟩
     else bA O (ops.map (nj t false)) ⟨db env t (.pv (.bool false)),mem,sh,aa⟩) else bA O ops ⟨env,mem,sh,aa⟩:=rfl
theorem GN {t:Nat} {ops:List dt} {d:Option Nat} {l:List dt} {env:List (Nat×AV)} {mem:List (Nat×List AV)} {sh:Sh} {aa:au}:gd O t ops d l env mem sh aa (some .un)=bA O l ⟨eU env d .un,mem,sh,aa⟩:=rfl
theorem Dz {t:Nat}:Dc t []=true:=rfl
theorem A6 {t d:Nat} {g:Option (Nat×Bool)} {args:List d3} {op:AK} {l:List dt}:Dc t (⟨some d,g,args,op⟩::l)=(!(decide (d=t)) && Dc t l):=by
 simp only [Dc]
 congr 1
theorem yk {t:Nat} {b:Bool} {d:Option Nat} {args:List d3} {op:AK}:nj t b ⟨d,none,args,op⟩=⟨d,none,args,op⟩:=rfl
theorem yl {t t':Nat} {b b':Bool} {d:Option Nat} {args:List d3} {op:AK}:nj t b ⟨d,some (t',b'),args,op⟩=if t'=t then (if b'=b then ⟨d,none,args,op⟩ else ⟨d,none,[.c .un],.v .mv⟩) else ⟨d,some (t',b'),args,op⟩:=rfl
theorem rG {d k:Option Nat} {env:List (Nat×AV)} {mem:List (Nat×List AV)} {v:AV} {cs:Option (List AV)} {sh:Sh} {aa:au} :
   ni d k env mem (some ⟨v,cs,sh,aa⟩)=some ⟨eU env d v,ew mem k cs,sh,aa⟩:=rfl
theorem tT {d k:Option Nat} {env:List (Nat×AV)} {mem:List (Nat×List AV)} {c:Prop} [Decidable c] {x y:Option Out}:ni d k env mem (if c then x else y)=if c then ni d k env mem x else ni d k env mem y:=by split<;>rfl
theorem tU {op:AK} {vals:List AV} {cells:Option (List AV)} {sh:Sh} {aa:au}:A4 O op (some vals) cells sh aa=exec O op vals cells sh aa:=rfl
def A7 (sh:Sh) (aa:au):Option AV→Option Out
 | some x=>some ⟨x,none,sh,aa⟩
 | none=>none
theorem ym {sh:Sh} {aa:au} {x:AV}:A7 sh aa (some x)=some ⟨x,none,sh,aa⟩:=rfl
variable {vals:List AV} {cells:Option (List AV)} {sh:Sh} {aa:au}
theorem FL {o:AH}:exec O (.v o) vals cells sh aa=A7 sh aa (bq o vals):=by
 show (bq o vals).map _=_
 cases bq o vals<;>rfl
theorem ft {key off sz d o:Nat} {ag:Bool} {cs:List AV}:exec O (.de key off sz ag) [.aT d o] (some cs) sh aa=if d=key∧o=off then A7 sh aa (bN ag sz cs off) else none:=by
 show (if d=key∧o=off then (bN ag sz cs off).map _ else none)=_
 cases bN ag sz cs off<;>rfl
theorem fK {key off sz d o:Nat} {v:AV} {cs:List AV}:exec O (.d4 key off sz) [.aT d o,v] (some cs) sh aa =
   if d=key∧o=off∧(aX v).length=sz∧(aX v).all aP=true then if off+sz≤cs.length then some ⟨.un,some (aN cs off (aX v)),sh,aa⟩ else none else none:=rfl
theorem gB {key:Nat} {zero:List PV}:exec O (.alloc key zero) [] none sh aa=some ⟨.aT key 0,some (zero.map bq.zeroCell),sh,aa⟩:=rfl
theorem i6 {key sz:Nat} {v:AV}:exec O (.box key sz) [v] none sh aa=if (aX v).length=sz∧(aX v).all aP=true then some ⟨.aT key 0,some (aX v),sh,aa⟩ else none:=rfl
theorem rH {sz:Nat} {ag:Bool} {cs:List PV}:exec O (.aR sz ag) [.cQ cs] cells sh aa=A7 sh aa (ca ag sz cs):=by
 show (ca ag sz cs).map _=_
 cases ca ag sz cs<;>rfl
def nk (ag:Bool) (sz off:Nat):Option (Option (List AV))→Option AV
 | some (some cs)=>if cA cs=true then none else bN ag sz cs off
 | _=>none
theorem l5 {ag:Bool} {sz off:Nat} {cs:List AV}:nk ag sz off (some (some cs))=if cA cs=true then none else bN ag sz cs off:=rfl
theorem rI {sz b off:Nat} {ag:Bool}:exec O (.aR sz ag) [.ba b off] cells sh aa=A7 sh aa (nk ag sz off sh[b]?):=by
 show (match sh[b]? with | some (some cs)=>if cA cs=true then none else (bN ag sz cs off).map _ | _=>none)=_
 split
 · rename_i cs h
   rw [h,l5]
   split
   · rfl
   · cases bN ag sz cs off<;>rfl
 · rename_i h
   unfold nk
   split
   · rename_i cs e;exact absurd e (h cs)
   · rfl
def pM (b off sz:Nat) (vs:List AV) (sh:Sh) (aa:au):Option (Option (List AV))→Option Out
 | some (some cs)=>if cA cs=false∧vs.length=sz∧off+sz≤cs.length∧vs.all dq=true∧vs.all (az (b+1))=true then some ⟨.un,none,sh.set b (some (aN cs off vs)),aa⟩ else none
 | _=>none
theorem kP {b off sz:Nat} {vs cs:List AV}:pM b off sz vs sh aa (some (some cs))=if cA cs=false∧vs.length=sz∧off+sz≤cs.length∧vs.all dq=true∧vs.all (az (b+1))=true then some ⟨.un,none,sh.set b (some (aN cs off vs)),aa⟩ else none:=rfl
theorem gS {sz b off:Nat} {v:AV}:exec O (.cz sz) [.ba b off,v] cells sh aa=pM b off sz (bK v) sh aa sh[b]?:=by
 show (match sh[b]? with | some (some cs)=>_ | _=>none)=_
 split
 · rename_i cs h
   rw [h,kP]
 · rename_i h
   unfold pM
   split
   · rename_i cs e;exact absurd e (h cs)
   · rfl
theorem jr {sz:Nat} {v:AV}:exec O (.kX sz) [v] cells sh aa=if (bK v).length=sz∧(bK v).all dq=true∧(bK v).all (az sh.length)=true then some ⟨.ba sh.length 0,none,sh++[some (bK v)],aa⟩ else none:=rfl
theorem gT {zero:List PV}:exec O (.gl zero) [] cells sh aa=some ⟨.ba sh.length 0,none,sh++[some (zero.map bq.zeroCell)],aa⟩:=rfl
theorem ix {sz bytes:Nat} {ag:Bool} {zero:List PV} {k k':IntKind} {n n':Int}:exec O (.jI sz bytes ag zero) [.pv (.int k n),.pv (.int k' n')] cells sh aa =
   if n=n'∧0≤n∧n≤9223372036854775807∧n*bytes≤140737488355328∧zero.length=sz then some ⟨.bd sh.length sz n.toNat ag,none,sh++[some ((List.replicate n.toNat (zero.map .pv)).flatten)],aa⟩ else none:=rfl
theorem A8:cA []=false:=rfl
theorem DA {p:PV} {r:List AV}:cA (.pv p::r)=false:=rfl
theorem A9 {l:List PV} {r:List AV}:cA (.bR l::r)=false:=rfl
theorem A_ {l:List PV} {τ:Nat} {r:List AV}:cA (.own l τ::r)=false:=rfl
theorem yn {b o:Nat} {r:List AV}:cA (.ba b o::r)=false:=rfl
theorem yo {b z n:Nat} {ag:Bool} {r:List AV}:cA (.bd b z n ag::r)=false:=rfl
theorem DB {g:Nat} {c r:List AV}:cA (.fn g c::r)=false:=rfl
theorem yp {r:List AV}:cA (.cM::r)=false:=rfl
theorem yq {s:Nat} {r:List AV}:cA (.ck s::r)=false:=rfl
theorem yt {kvs:List (PV×PV)} {r:List AV}:cA (.da kvs::r)=true:=rfl
theorem iy:exec O .kj [] cells sh aa=some ⟨.ck sh.length,none,sh++[some [.da []]],aa⟩:=rfl
def FM (ok:Bool) (z:PV) (sh:Sh) (aa:au):Option (Option PV)→Option Out
 | some r=>some ⟨fY ok z r,none,sh,aa⟩
 | none=>none
theorem yu {ok:Bool} {z:PV} {r:Option PV}:FM ok z sh aa (some r)=some ⟨fY ok z r,none,sh,aa⟩:=rfl
theorem pN {z:PV} {r:Option PV}:fY true z r=.jH [.pv (r.getD z),.pv (.bool r.isSome)]:=rfl
theorem og {z:PV} {r:Option PV}:fY false z r=.pv (r.getD z):=rfl
def A' (c:CK) (ok:Bool) (z k:PV) (sh:Sh) (aa:au):Option (Option (List AV))→Option Out
 | some (some [.da kvs])=>FM ok z sh aa (gX c kvs k)
 | _=>none
theorem nm {c:CK} {ok:Bool} {z k:PV} {kvs:List (PV×PV)}:A' c ok z k sh aa (some (some [.da kvs]))=FM ok z sh aa (gX c kvs k):=rfl
theorem gC {c:CK} {ok:Bool} {z k:PV} {s:Nat}:exec O (.hH c ok z) [.ck s,.pv k] cells sh aa=A' c ok z k sh aa sh[s]?:=by
 show (match sh[s]? with | some (some [.da kvs])=>(gX c kvs k).map _ | _=>none)=_
 split
 · rename_i kvs h
   rw [h,nm]
   cases gX c kvs k<;>rfl
 · rename_i h
   unfold A'
   split
   · rename_i kvs e;exact absurd e (h kvs)
   · rfl
def FN (s:Nat) (sh:Sh) (aa:au):Option (List (PV×PV))→Option Out
 | some kvs=>some ⟨.un,none,sh.set s (some [.da kvs]),aa⟩
 | none=>none
theorem yv {s:Nat} {kvs:List (PV×PV)}:FN s sh aa (some kvs)=some ⟨.un,none,sh.set s (some [.da kvs]),aa⟩:=rfl
def FO (c:CK) (s:Nat) (k:PV) (sh:Sh) (aa:au):Option (Option (List AV))→Option PV→Option Out
 | some (some [.da kvs]),some p=>FN s sh aa (iU c kvs k p)
 | _,_=>none
theorem oP {c:CK} {s:Nat} {k p:PV} {kvs:List (PV×PV)}:FO c s k sh aa (some (some [.da kvs])) (some p)=FN s sh aa (iU c kvs k p):=rfl
theorem js {c:CK} {k:PV} {s:Nat} {v:AV}:exec O (.mG c) [.ck s,.pv k,v] cells sh aa=FO c s k sh aa sh[s]? (eM [] v):=by
 show (match sh[s]?,eM [] v with | some (some [.da kvs]),some p=>(iU c kvs k p).map _ | _,_=>none)=_
 split
 · rename_i kvs p h1 h2
   rw [h1,h2,oP]
   cases iU c kvs k p<;>rfl
 · rename_i h
   unfold FO
   split
   · rename_i kvs p e1 e2;exact absurd e2 (h kvs p e1)
   · rfl
def FP (neg:Bool):Option Bool→Option AV
 | some b=>some (.pv (.bool (if neg then !b else b)))
 | none=>none
theorem yw {neg b:Bool}:FP neg (some b)=some (.pv (.bool (if neg then !b else b))):=rfl
def FQ (cs:List CK) (neg:Bool):Option PV→Option PV→Option AV
 | some (.agg ps),some (.agg qs)=>FP neg (cJ cs ps qs)
 | _,_=>none
theorem oQ {cs:List CK} {neg:Bool} {ps qs:List PV}:FQ cs neg (some (.agg ps)) (some (.agg qs))=FP neg (cJ cs ps qs):=rfl
theorem DC {cs:List CK} {neg:Bool} {x y:AV}:bq (.ES cs neg) [x,y]=FQ cs neg (eM [] x) (eM [] y):=by
 show (match eM [] x,eM [] y with | some (.agg ps),some (.agg qs)=>(cJ cs ps qs).map _ | _,_=>none)=_
 split
 · rename_i ps qs h1 h2
   rw [h1,h2,oQ]
   cases cJ cs ps qs<;>rfl
 · rename_i h
   unfold FQ
   split
   · rename_i ps qs e1 e2;exact absurd e2 (h ps qs e1)
   · rfl
def FR (sh:Sh):Option (AV×au)→Option Out
 | some (v,ts)=>some ⟨v,none,sh,ts⟩
 | none=>none
theorem yx {v:AV} {ts:au}:FR sh (some (v,ts))=some ⟨v,none,sh,ts⟩:=rfl
theorem gU {sz bytes:Nat} {s x:AV}:exec O (.append sz bytes) [s,x] cells sh aa=FR sh (bL sz bytes s x aa):=by
 show (bL sz bytes s x aa).map _=_
 cases bL sz bytes s x aa<;>rfl
theorem jY {sz bytes:Nat} {x:AV}:exec O (.clone sz bytes) [x] cells sh aa=FR sh (bL sz bytes (.bR []) x aa):=by
 show (bL sz bytes (.bR []) x aa).map _=_
 cases bL sz bytes (.bR []) x aa<;>rfl
def xj (sz bytes:Nat) (s:AV) (aa:au):Option (List PV)→Option (AV×au)
 | some xs=>if bu sz xs=true then
   match s with
   | .bR l=>if xs.isEmpty=true then some (.bR l,aa) else if bu sz l=true∧(l.length+xs.length)*bytes≤140737488355328 then
       some (.own (l++xs) aa.length,aa++[(l++xs).length]) else none
   | .own l τ=>if aa[τ]?=some l.length∧bu sz l=true∧(l.length+xs.length)*bytes≤140737488355328 then
       some (.own (l++xs) τ,aa.set τ (l++xs).length) else none
   | _=>none
   else none
 | none=>none
theorem oh {sz bytes:Nat} {s x:AV}:bL sz bytes s x aa=xj sz bytes s aa (cC x):=by
 unfold bL xj
 cases cC x<;>rfl
theorem yy {sz bytes:Nat} {l xs:List PV}:xj sz bytes (.bR l) aa (some xs)=if bu sz xs=true then if xs.isEmpty=true then some (.bR l,aa) else if bu sz l=true∧(l.length+xs.length)*bytes≤140737488355328 then
       some (.own (l++xs) aa.length,aa++[(l++xs).length]) else none else none:=rfl
theorem yz {sz bytes τ:Nat} {l xs:List PV}:xj sz bytes (.own l τ) aa (some xs)=if bu sz xs=true then if aa[τ]?=some l.length∧bu sz l=true∧(l.length+xs.length)*bytes≤140737488355328 then
       some (.own (l++xs) τ,aa.set τ (l++xs).length) else none else none:=rfl
def yA (aa:au):Option (AV×Sh)→Option Out
 | some (v,sh)=>some ⟨v,none,sh,aa⟩
 | none=>none
theorem yB {v:AV} {sh:Sh}:yA aa (some (v,sh))=some ⟨v,none,sh,aa⟩:=rfl
theorem Ba {c:Prop} [Decidable c] {x y:Option (AV×Sh)}:yA aa (if c then x else y)=if c then yA aa x else yA aa y:=by split<;>rfl
def Bb (sz bytes:Nat) (ag:Bool) (s:AV) (sh:Sh) (aa:au):Option (List PV)→Option Out
 | some xs=>if bu sz xs=true then yA aa (mL sz bytes ag s xs sh aa) else none
 | none=>none
theorem tV {sz bytes:Nat} {ag:Bool} {s:AV} {xs:List PV}:Bb sz bytes ag s sh aa (some xs)=if bu sz xs=true then yA aa (mL sz bytes ag s xs sh aa) else none:=rfl
theorem iA {sz bytes:Nat} {ag:Bool} {s x:AV}:exec O (.cI sz bytes ag) [s,x] cells sh aa=Bb sz bytes ag s sh aa (cC x):=by
 simp only [exec,Bb]
 cases cC x with
 | none=>rfl
 | some xs=>
   simp only
   split
   · cases mL sz bytes ag s xs sh aa<;>rfl
   · rfl
def tW (sz bytes:Nat) (ag:Bool) (b z n:Nat) (g:Bool) (xs:List PV) (sh:Sh):Option (Option (List AV))→Option (AV×Sh)
 | some (some cells)=>if z=sz∧g=ag∧cA cells=false∧n*sz≤cells.length∧(n+xs.length)*bytes≤140737488355328 then
       if xs.isEmpty=true then some (.bd b sz n ag,sh) else some (.bd sh.length sz (n+xs.length) ag,sh.set b none++[some (cells.take (n*sz)++(xs.flatMap aU).map .pv)])
     else none
 | _=>none
theorem rJ {sz bytes:Nat} {ag:Bool} {b z n:Nat} {g:Bool} {xs:List PV} {cells:List AV}:tW sz bytes ag b z n g xs sh (some (some cells))=if z=sz∧g=ag∧cA cells=false∧n*sz≤cells.length∧(n+xs.length)*bytes≤140737488355328 then
       if xs.isEmpty=true then some (.bd b sz n ag,sh) else some (.bd sh.length sz (n+xs.length) ag,sh.set b none++[some (cells.take (n*sz)++(xs.flatMap aU).map .pv)])
     else none:=rfl
theorem Bc {sz bytes:Nat} {ag:Bool} {xs:List PV}:mL sz bytes ag (.bR []) xs sh aa=tn sz bytes ag (.bR []) xs sh:=rfl
theorem Bd {sz bytes τ:Nat} {ag:Bool} {xs:List PV}:mL sz bytes ag (.own [] τ) xs sh aa=if aa[τ]?=some 0 then tn sz bytes ag (.own [] τ) xs sh else none:=rfl
theorem yC {sz bytes b z n:Nat} {ag g:Bool} {xs:List PV}:mL sz bytes ag (.bd b z n g) xs sh aa=tW sz bytes ag b z n g xs sh sh[b]?:=by
 simp only [mL,tW]
 rcases sh[b]? with _ | _ | cells<;>rfl
theorem DD {sz bytes:Nat} {ag:Bool} {s:AV} {xs:List PV}:tn sz bytes ag s xs sh=if xs.isEmpty=true then some (s,sh) else if xs.length*bytes≤140737488355328 then some (.bd sh.length sz xs.length ag,sh++[some ((xs.flatMap aU).map .pv)]) else none:=rfl
def DE (r:List Nat) (t:Nat) (st:St) (v:AV):Option PV→St
 | some p=>jG r { st with env:=db st.env t (.pv p),sh:=dL st.sh [v] }
 | none=>jG r (tq v st)
def xk (d:Nat) (cs:List AV) (st:St):Option (List PV)→St
 | some ps=>{ st with mem:=db st.mem d (ps.map .pv),sh:=dL st.sh [.agg cs] }
 | none=>st
def Be (d:Nat) (st:St):Option (List AV)→St
 | some cs=>xk d cs st (dH st.sh cs)
 | none=>st
theorem yD {d:Nat} {st:St}:tq (.aT d 0) st=Be d st (look st.mem d):=by
 simp only [tq]
 cases look st.mem d with
 | none=>rfl
 | some cs=>
   simp only [Be]
   cases dH st.sh cs<;>rfl
theorem tX {d:Nat} {st:St} {cs:List AV}:Be d st (some cs)=xk d cs st (dH st.sh cs):=rfl
theorem tY {d:Nat} {st:St} {cs:List AV} {ps:List PV}:xk d cs st (some ps)={ st with mem:=db st.mem d (ps.map .pv),sh:=dL st.sh [.agg cs] }:=rfl
theorem tZ {d:Nat} {st:St} {cs:List AV}:xk d cs st none=st:=rfl
def DF (r:List Nat) (t:Nat) (st:St):Option AV→St
 | some v=>DE r t st v (eM st.sh v)
 | none=>jG r st
theorem Bf {st:St}:jG [] st=st:=rfl
theorem yE {t:Nat} {r:List Nat} {st:St}:jG (t::r) st=DF r t st (look st.env t):=by
 simp only [jG]
 cases look st.env t with
 | none=>rfl
 | some v=>
   simp only [DF]
   cases eM st.sh v<;>rfl
theorem yF {r:List Nat} {t:Nat} {st:St} {v:AV}:DF r t st (some v)=DE r t st v (eM st.sh v):=rfl
theorem yG {r:List Nat} {t:Nat} {st:St}:DF r t st none=jG r st:=rfl
theorem yH {r:List Nat} {t:Nat} {st:St} {v:AV} {p:PV}:DE r t st v (some p)=jG r { st with env:=db st.env t (.pv p),sh:=dL st.sh [v] }:=rfl
theorem yI {r:List Nat} {t:Nat} {st:St} {v:AV}:DE r t st v none=jG r (tq v st):=rfl
def HY (aa:au):Option Sh→Option Out
 | some sh=>some ⟨.jH [],none,sh,aa⟩
 | none=>none
theorem yJ {sh:Sh}:HY aa (some sh)=some ⟨.jH [],none,sh,aa⟩:=rfl
def FT (sz:Nat) (zero:List PV) (sh:Sh) (b off n:Nat):Option (Option (List AV))→Option Sh
 | some (some cells)=>if cA cells=false∧off+n*sz≤cells.length∧zero.length=sz then some (sh.set b (some (aN cells off (List.replicate n (zero.map .pv)).flatten))) else none
 | _=>none
theorem rK {sz b off n:Nat} {zero:List PV} {cells:List AV}:FT sz zero sh b off n (some (some cells))=if cA cells=false∧off+n*sz≤cells.length∧zero.length=sz then some (sh.set b (some (aN cells off (List.replicate n (zero.map .pv)).flatten))) else none:=rfl
def np (sz:Nat) (sh:Sh) (aa:au) (x:AV):Option (List PV)→Option Out
 | some xs=>Bg aa (mK sz sh xs x)
 | none=>none
where Bg (aa:au):Option (Nat×Sh)→Option Out
 | some (k,sh')=>some ⟨.pv (.int .i64 (k:Int)),none,sh',aa⟩
 | none=>none
theorem rL {sz:Nat} {x:AV} {xs:List PV}:np sz sh aa x (some xs)=np.Bg aa (mK sz sh xs x):=rfl
theorem t5 {k:Nat} {sh':Sh}:np.Bg aa (some (k,sh'))=some ⟨.pv (.int .i64 (k:Int)),none,sh',aa⟩:=rfl
theorem iz {sz:Nat} {x y:AV}:exec O (.iP sz) [x,y] cells sh aa=np sz sh aa x (cC y):=by
 simp only [exec,np]
 cases cC y with
 | none=>rfl
 | some xs=>simp only;cases mK sz sh xs x<;>rfl
def GO (sz:Nat) (sh:Sh) (xs:List PV) (b z n:Nat):Option (Option (List AV))→Option (Nat×Sh)
 | some (some cells)=>if z=sz∧bu sz xs=true∧cA cells=false∧n*sz≤cells.length then
       some (min xs.length n,sh.set b (some (aN cells 0 (((xs.take n).flatMap aU).map .pv)))) else none
 | _=>none
theorem t6 {sz b z n:Nat} {xs:List PV} {cells:List AV}:GO sz sh xs b z n (some (some cells))=if z=sz∧bu sz xs=true∧cA cells=false∧n*sz≤cells.length then
       some (min xs.length n,sh.set b (some (aN cells 0 (((xs.take n).flatMap aU).map .pv)))) else none:=rfl
theorem yK {s:Nat}:AK.key (.iP s)=none:=rfl
def rM (sz bytes:Nat) (sh:Sh) (aa:au) (s e:AV):Option (List PV)→Option Out
 | some xs=>FU sh aa (qt sz bytes xs s e aa)
 | none=>none
where FU (sh:Sh) (aa:au):Option PV→Option Out
 | some p=>some ⟨.pv p,none,sh,aa⟩
 | none=>none
theorem t7 {sz bytes:Nat} {s e:AV} {xs:List PV}:rM sz bytes sh aa s e (some xs)=rM.FU sh aa (qt sz bytes xs s e aa):=rfl
theorem yL {p:PV}:rM.FU sh aa (some p)=some ⟨.pv p,none,sh,aa⟩:=rfl
theorem gi {sz bytes:Nat} {s x e:AV}:exec O (.eg sz bytes) [s,x,e] cells sh aa=rM sz bytes sh aa s e (cC x):=by
 simp only [exec,rM]
 cases cC x with
 | none=>rfl
 | some xs=>simp only;cases qt sz bytes xs s e aa<;>rfl
theorem Bh {sz bytes τ σ:Nat} {xs l m:List PV}:qt sz bytes xs (.own l τ) (.own m σ) aa=if τ=σ∧aa[τ]?=some m.length∧m.length=l.length+xs.length∧bu 1 l=true∧bu 1 xs=true∧sz=1 ∧
     dk (m.drop l.length) xs=true∧xs.isEmpty=false∧m.length*bytes≤140737488355328 then some (.aI (l++xs)) else none:=rfl
theorem yM:dk [] []=true:=rfl
theorem t8 {a b:List UInt8} {r q:List PV}:dk (.str a::r) (.str b::q)=((a == b) && dk r q):=rfl
theorem rN {s b:Nat}:AK.key (.eg s b)=none:=rfl
theorem t9 {s:Nat} {z:List PV}:AK.key (.fR s z)=none:=rfl
theorem t_ {sz b n:Nat} {ag lo hi:Bool} {rest:List AV}:bq (.kW sz lo hi) (.bd b sz n ag::rest)=hU sz lo hi (.bd b sz n ag::rest):=rfl
theorem ua {aE ts:au} {a b c:Nat}:bt aE ts (.jS a b c)=(.jS a b c,aE,ts):=rfl
theorem ub {live:List Nat} {a b c:Nat}:dI live (.jS a b c)=true:=rfl
theorem Bi {l:List PV}:cC (.pv (.aI l))=some l:=rfl
theorem yN {l:List PV}:cC (.bR l)=some l:=rfl
theorem yO {l:List PV} {τ:Nat}:cC (.own l τ)=some l:=rfl
theorem uc {sz:Nat}:bu sz []=true:=rfl
theorem rO {sz:Nat} {p:PV} {r:List PV}:bu sz (p::r)=((aU p).length == sz):=rfl
def FV (sh:Sh) (aa:au):Option (List PV)→Option Out
 | some rs=>some ⟨mo rs,none,sh,aa⟩
 | none=>none
theorem yP {rs:List PV}:FV sh aa (some rs)=some ⟨mo rs,none,sh,aa⟩:=rfl
def Bj (O:d0) (g:Nat):Option (List PV)→Option (List PV)
 | some cU=>O.p g cU
 | none=>none
theorem kb {g:Nat} {cU:List PV}:Bj O g (some cU)=O.p g cU:=rfl
theorem ud {g:Nat}:exec O (.aB g) vals cells sh aa=FV sh aa (Bj O g (cp [] vals)):=by
 show (match cp [] vals with | some cU=>_ | none=>none)=_
 split
 · rename_i cU h
   rw [h,kb]
   cases O.p g cU<;>rfl
 · rename_i h;rw [h];rfl
theorem rP {g:Nat}:exec O (.eI g) vals cells sh aa=FV (dL sh vals) aa (Bj O g (cp sh vals)):=by
 show (match cp sh vals with | some cU=>_ | none=>none)=_
 split
 · rename_i cU h
   rw [h,kb]
   cases O.p g cU<;>rfl
 · rename_i h;rw [h];rfl
def FW (n:Nat) (ts0:au):Option (List AV×Sh×au)→Option Out
 | some (rs,sh',ts)=>some ⟨kl (rs.map (bS n)),none,eu n sh',ts0++ts⟩
 | none=>none
theorem yQ {n:Nat} {ts0:au} {rs:List AV} {sh':Sh} {ts:au}:FW n ts0 (some (rs,sh',ts))=some ⟨kl (rs.map (bS n)),none,eu n sh',ts0++ts⟩:=rfl
def xl (O:d0) (g n:Nat) (q:List AV×Sh×au×au):Option Out:=FW n q.2.2.1 (O.i g q.1 q.2.1 q.2.2.2)
theorem Bk {g n:Nat} {a:List AV} {s:Sh} {o t:au}:xl O g n (a,s,o,t)=FW n o (O.i g a s t):=rfl
def rQ (O:d0) (g:Nat) (args:List AV) (sh:Sh) (aa:au):Option Out:=
 if args.all bD=true then xl O g aa.length (cr aa args sh) else none
theorem Bl {g:Nat} {args:List AV}:rQ O g args sh aa=if args.all bD=true then xl O g aa.length (cr aa args sh) else none:=rfl
theorem l6 {g:Nat} {own:List Nat}:(dP O g own vals sh aa).map (fun (v,sh',ts)=>(⟨v,none,sh',ts⟩:Out))=rQ O g (dV own 0 vals) sh aa:=by
 unfold dP rQ xl
 split
 · cases O.i g (cr aa (dV own 0 vals) sh).1 (cr aa (dV own 0 vals) sh).2.1 (cr aa (dV own 0 vals) sh).2.2.2 with
   | none=>rfl
   | some q=>obtain ⟨a,b,c⟩:=q;rfl
 · rfl
theorem ue {g:Nat} {own:List Nat}:exec O (.aA g own) vals cells sh aa=rQ O g (dV own 0 vals) sh aa:=l6
theorem gG {g:Nat} {cap:List AV}:exec O .eB (.fn g cap::vals) cells sh aa=rQ O g (dV [] 0 (vals++cap)) sh aa:=l6 (vals:=vals++cap)
def GP (sh:Sh) (aa:au):Option (List AV×Sh×au)→Option Out
 | some (rs,[],ts)=>some ⟨kl (rs.map (bS aa.length)),none,sh,aa++ts⟩
 | _=>none
theorem yR {rs:List AV} {ts:au}:GP sh aa (some (rs,[],ts))=some ⟨kl (rs.map (bS aa.length)),none,sh,aa++ts⟩:=rfl
def Bm (O:d0) (g:Nat):Option (List PV)→Option (List AV×Sh×au)
 | some cU=>O.i g (cU.map .pv) [] []
 | none=>none
theorem l7 {g:Nat} {cU:List PV}:Bm O g (some cU)=O.i g (cU.map .pv) [] []:=rfl
theorem uf {g:Nat}:exec O (.hP g) vals cells sh aa=GP sh aa (Bm O g (cp [] vals)):=by
 show (match cp [] vals with | some cU=>_ | none=>none)=_
 split
 · rename_i cU h
   rw [h,l7]
   cases O.i g (cU.map .pv) [] [] with
   | none=>rfl
   | some q=>
     obtain ⟨a,b,c⟩:=q
     cases b<;>rfl
 · rename_i h;rw [h];rfl
theorem ug {own:List Nat} {i:Nat}:dV own i []=[]:=rfl
theorem rR {own:List Nat} {i:Nat} {v:AV} {r:List AV}:dV own i (v::r)=(if own.contains i then v else gK v)::dV own (i+1) r:=rfl
theorem Bn {p:PV}:gK (.pv p)=.pv p:=rfl
theorem yS {l:List PV}:gK (.bR l)=.pv (.aI l):=rfl
theorem yT {l:List PV} {τ:Nat}:gK (.own l τ)=.pv (.aI l):=rfl
theorem uh {b o:Nat}:gK (.ba b o)=.ba b o:=rfl
theorem Bo {g:Nat} {cap:List AV}:gK (.fn g cap)=.fn g cap:=rfl
theorem ui {b s n:Nat} {ag:Bool}:gK (.bd b s n ag)=.bd b s n ag:=rfl
theorem uj:gK .cM=.cM:=rfl
theorem uk {s:Nat}:gK (.ck s)=(.ck s):=rfl
def pO (cs:List AV):Option (List PV)→AV
 | some ps=>.pv (.agg ps)
 | none=>.agg cs
theorem yU {cs:List AV}:gK (.agg cs)=pO cs (dH [] cs):=by
 have h:eM [] (.agg cs)=(dH [] cs).map .agg:=rfl
 unfold gK pO
 rw [h]
 cases dH [] cs<;>rfl
theorem rS {cs:List AV} {ps:List PV}:pO cs (some ps)=.pv (.agg ps):=rfl
def l8 {α:Type}:Option α→Option (List α)→Option (List α)
 | some x,some l=>some (x::l)
 | _,_=>none
theorem um {α:Type} {x:α} {l:List α}:l8 (some x) (some l)=some (x::l):=rfl
theorem uo {env:List (Nat×AV)}:dv env []=some []:=rfl
theorem rT {env:List (Nat×AV)} {x:d3} {r:List d3}:dv env (x::r)=l8 (ff env x) (dv env r):=by
 simp only [dv]
 cases ff env x<;>cases dv env r<;>rfl
theorem DG {env:List (Nat×AV)} {n:Nat}:ff env (.t n)=look env n:=rfl
theorem DH {env:List (Nat×AV)} {v:AV}:ff env (.c v)=some v:=rfl
theorem Bp:eS []=some []:=rfl
theorem uq:cp sh []=some []:=rfl
theorem rU {v:AV} {r:List AV}:cp sh (v::r)=l8 (eM sh v) (cp sh r):=by
 simp only [cp]
 cases eM sh v<;>cases cp sh r<;>rfl
theorem yV:dH sh []=some []:=rfl
theorem ur {v:AV} {r:List AV}:dH sh (v::r)=if aP v=true then l8 (cu sh v) (dH sh r) else none:=by
 simp only [dH]
 split
 · cases cu sh v<;>cases dH sh r<;>rfl
 · rfl
theorem DI {p:PV}:jF (.pv p)=some p:=rfl
theorem Bq {l:List PV}:jF (.bR l)=some (.aI l):=rfl
theorem Br {l:List PV} {τ:Nat}:jF (.own l τ)=some (.aI l):=rfl
theorem FX {p:PV}:eM sh (.pv p)=some p:=rfl
theorem DJ {l:List PV}:eM sh (.bR l)=some (.aI l):=rfl
theorem DK {l:List PV} {τ:Nat}:eM sh (.own l τ)=some (.aI l):=rfl
def GQ:Option (List PV)→Option PV
 | some ps=>some (.agg ps)
 | none=>none
theorem yW {ps:List PV}:GQ (some ps)=some (.agg ps):=rfl
theorem DL {cs:List AV}:eM sh (.agg cs)=GQ (dH sh cs):=by
 simp only [eM]
 cases dH sh cs<;>rfl
theorem uu {p:PV}:cu sh (.pv p)=some p:=rfl
theorem rV {l:List PV}:cu sh (.bR l)=some (.aI l):=rfl
theorem rW {l:List PV} {τ:Nat}:cu sh (.own l τ)=some (.aI l):=rfl
theorem pP {b o:Nat}:cu sh (.ba b o)=none:=rfl
theorem uv {g:Nat} {c:List AV}:cu sh (.fn g c)=none:=rfl
theorem pQ:cu sh .cM=none:=rfl
theorem pR {s:Nat}:cu sh (.ck s)=none:=rfl
theorem Bs {b o:Nat}:eM sh (.ba b o)=none:=rfl
theorem FY {g:Nat} {c:List AV}:eM sh (.fn g c)=none:=rfl
theorem Bt:eM sh .cM=none:=rfl
theorem Bu {s:Nat}:eM sh (.ck s)=none:=rfl
def DM (sz n:Nat) (ag:Bool):Option (Option (List AV))→Option PV
 | some (some cells)=>if cells.length=n*sz then ((eS cells).bind (eK sz ag n)).map .aI
   else if cA cells=false∧n*sz≤cells.length then ((eS (cells.take (n*sz))).bind (eK sz ag n)).map .aI else none
 | _=>none
theorem pS {b sz n:Nat} {ag:Bool}:cu sh (.bd b sz n ag)=DM sz n ag sh[b]?:=rfl
theorem Bv {b sz n:Nat} {ag:Bool}:eM sh (.bd b sz n ag)=DM sz n ag sh[b]?:=rfl
theorem yX {sz n:Nat} {ag:Bool} {cells:List AV}:DM sz n ag (some (some cells))=if cells.length=n*sz then ((eS cells).bind (eK sz ag n)).map .aI else if cA cells=false∧n*sz≤cells.length then ((eS (cells.take (n*sz))).bind (eK sz ag n)).map .aI else none:=rfl
theorem Bw {r:PV}:mo [r]=.pv r:=rfl
theorem Bx:mo []=.jH []:=rfl
theorem By {a b:PV} {r:List PV}:mo (a::b::r)=.jH (.pv a::.pv b::r.map .pv):=rfl
theorem Bz {r:AV}:kl [r]=r:=rfl
theorem BA:kl []=.jH []:=rfl
theorem BB {a b:AV} {r:List AV}:kl (a::b::r)=.jH (a::b::r):=rfl
theorem BC {xs:List AV}:cr aa xs sh=((bh aa [] xs).1,(bE (bh aa [] xs).2.1 (bh aa [] xs).2.2 sh).1,(bE (bh aa [] xs).2.1 (bh aa [] xs).2.2 sh).2.1,(bE (bh aa [] xs).2.1 (bh aa [] xs).2.2 sh).2.2):=rfl
theorem yY {aE ts:au}:bh aE ts []=([],aE,ts):=rfl
theorem nq {aE ts:au} {v:AV} {r:List AV}:bh aE ts (v::r)=((bt aE ts v).1::(bh (bt aE ts v).2.1 (bt aE ts v).2.2 r).1,(bh (bt aE ts v).2.1 (bt aE ts v).2.2 r).2):=rfl
theorem yZ {aE ts:au}:bE aE ts []=([],aE,ts):=rfl
theorem nr {aE ts:au} {r:Sh}:bE aE ts (none::r)=(none::(bE aE ts r).1,(bE aE ts r).2):=rfl
theorem nu {aE ts:au} {cs:List AV} {r:Sh}:bE aE ts (some cs::r)=(some (bh aE ts cs).1::(bE (bh aE ts cs).2.1 (bh aE ts cs).2.2 r).1,(bE (bh aE ts cs).2.1 (bh aE ts cs).2.2 r).2):=rfl
theorem y1 {aE ts:au}:cR aE ts []=([],aE,ts):=rfl
theorem uw {aE ts:au} {t:Nat} {v:AV} {r:List (Nat×AV)}:cR aE ts ((t,v)::r)=((t,(bt aE ts v).1)::(cR (bt aE ts v).2.1 (bt aE ts v).2.2 r).1,(cR (bt aE ts v).2.1 (bt aE ts v).2.2 r).2):=rfl
theorem y2 {aE ts:au}:d7 aE ts []=([],aE,ts):=rfl
theorem ux {aE ts:au} {t:Nat} {v:List AV} {r:List (Nat×List AV)}:d7 aE ts ((t,v)::r)=((t,(bh aE ts v).1)::(d7 (bh aE ts v).2.1 (bh aE ts v).2.2 r).1,(d7 (bh aE ts v).2.1 (bh aE ts v).2.2 r).2):=rfl
theorem y3 {aE ts:au} {l:List PV} {τ:Nat}:bt aE ts (.own l τ)=if aE[τ]?=some l.length then (.own l ts.length,aE.set τ (l.length+1),ts++[l.length]) else (.pv (.aI l),aE,ts):=rfl
theorem y4 {aE ts:au} {l:List PV}:bt aE ts (.bR l)=(.own l ts.length,aE,ts++[l.length]):=rfl
theorem BD {aE ts:au}:bt aE ts .un=(.un,aE,ts):=rfl
theorem rX {aE ts:au} {p:PV}:bt aE ts (.pv p)=(.pv p,aE,ts):=rfl
def uy (aE ts:au) (p:List AV):Bool→AV×au×au
 | true=>(.agg p,aE,ts)
 | false=>(.agg (cb aE ts p).1,(cb aE ts p).2.1,(cb aE ts p).2.2)
theorem y5 {aE ts:au} {p:List AV}:bt aE ts (.agg p)=uy aE ts p (bg.dr p):=by
 simp only [bt]
 cases bg.dr p<;>rfl
theorem rY {aE ts:au} {p:List AV}:uy aE ts p true=(.agg p,aE,ts):=rfl
theorem pT {aE ts:au} {p:List AV}:uy aE ts p false=(.agg (cb aE ts p).1,(cb aE ts p).2.1,(cb aE ts p).2.2):=rfl
theorem uz {aE ts:au}:cb aE ts []=([],aE,ts):=rfl
theorem rZ {aE ts:au} {v:AV} {r:List AV}:cb aE ts (v::r)=((c_ aE ts v).1::(cb (c_ aE ts v).2.1 (c_ aE ts v).2.2 r).1,(cb (c_ aE ts v).2.1 (c_ aE ts v).2.2 r).2):=rfl
theorem y6 {aE ts:au} {l:List PV} {τ:Nat}:c_ aE ts (.own l τ)=if aE[τ]?=some l.length then (.own l ts.length,aE.set τ (l.length+1),ts++[l.length]) else (.pv (.aI l),aE,ts):=rfl
theorem BE {aE ts:au} {p:PV}:c_ aE ts (.pv p)=(.pv p,aE,ts):=rfl
theorem y7 {aE ts:au} {p:List PV}:c_ aE ts (.bR p)=(.bR p,aE,ts):=rfl
theorem uA {aE ts:au} {a b:Nat}:c_ aE ts (.ba a b)=(.ba a b,aE,ts):=rfl
theorem uB {aE ts:au} {a b c:Nat} {d:Bool}:c_ aE ts (.bd a b c d)=(.bd a b c d,aE,ts):=rfl
theorem BF {aE ts:au} {a:Nat} {c:List AV}:c_ aE ts (.fn a c)=(.fn a c,aE,ts):=rfl
theorem uC {aE ts:au}:c_ aE ts .cM=(.cM,aE,ts):=rfl
theorem uD {s:Nat} {aE ts:au}:c_ aE ts (.ck s)=((.ck s),aE,ts):=rfl
theorem y8 {aE ts:au} {p:List AV}:bt aE ts (.jH p)=(.jH p,aE,ts):=rfl
theorem uE {aE ts:au} {a b:Nat}:bt aE ts (.aT a b)=(.aT a b,aE,ts):=rfl
theorem uF {aE ts:au} {a b:Nat}:bt aE ts (.ba a b)=(.ba a b,aE,ts):=rfl
theorem uG {aE ts:au} {a:List PV}:bt aE ts (.cQ a)=(.cQ a,aE,ts):=rfl
theorem uH {aE ts:au} {a b c:Nat} {d:Bool}:bt aE ts (.bd a b c d)=(.bd a b c d,aE,ts):=rfl
theorem BG {aE ts:au} {a:Nat} {c:List AV}:bt aE ts (.fn a c)=(.fn a c,aE,ts):=rfl
theorem uI {aE ts:au}:bt aE ts .cM=(.cM,aE,ts):=rfl
theorem uJ {s:Nat} {aE ts:au}:bt aE ts (.ck s)=((.ck s),aE,ts):=rfl
theorem uK {s:List (PV×PV)} {aE ts:au}:bt aE ts (.da s)=((.da s),aE,ts):=rfl
theorem DN {env:List (Nat×AV)} {mem:List (Nat×List AV)}:norm ⟨env,mem,sh,aa⟩ =
   { env:=(cR aa [] env).1,
     mem:=(d7 (cR aa [] env).2.1 (cR aa [] env).2.2 mem).1,
     sh:=(bE (d7 (cR aa [] env).2.1 (cR aa [] env).2.2 mem).2.1 (d7 (cR aa [] env).2.1 (cR aa [] env).2.2 mem).2.2 sh).1,
     aa:=(bE (d7 (cR aa [] env).2.1 (cR aa [] env).2.2 mem).2.1 (d7 (cR aa [] env).2.1 (cR aa [] env).2.2 mem).2.2 sh).2.2 }:=rfl
theorem r5 {live:List Nat} {env:List (Nat×AV)} {mem:List (Nat×List AV)}:restrict live ⟨env,mem,sh,aa⟩=⟨bB live env live,bC mem live,sh,aa⟩:=rfl
def BH (live:List Nat) (t:Nat) (rest:List (Nat×AV)):Option AV→List (Nat×AV)
 | some v=>if dI live v=true then (t,v)::rest else rest
 | none=>rest
theorem uL {live:List Nat} {t:Nat} {rest:List (Nat×AV)} {v:AV}:BH live t rest (some v)=if dI live v=true then (t,v)::rest else rest:=rfl
theorem uM {live:List Nat} {t:Nat} {rest:List (Nat×AV)}:BH live t rest none=rest:=rfl
theorem mu {live:List Nat} {env:List (Nat×AV)}:bB live env []=[]:=rfl
theorem lq {live:List Nat} {env:List (Nat×AV)} {t:Nat} {r:List Nat}:bB live env (t::r)=BH live t (bB live env r) (look env t):=by
 show (match look env t with | some v=>_ | none=>_)=_
 cases look env t<;>rfl
def BI (t:Nat) (rest:List (Nat×List AV)):Option (List AV)→List (Nat×List AV)
 | some v=>(t,v)::rest
 | none=>rest
theorem uN {t:Nat} {rest:List (Nat×List AV)} {v:List AV}:BI t rest (some v)=(t,v)::rest:=rfl
theorem uO {t:Nat} {rest:List (Nat×List AV)}:BI t rest none=rest:=rfl
theorem mw {mem:List (Nat×List AV)}:bC mem []=[]:=rfl
theorem lr {mem:List (Nat×List AV)} {t:Nat} {r:List Nat}:bC mem (t::r)=BI t (bC mem r) (look mem t):=by
 show (match look mem t with | some v=>_ | none=>_)=_
 cases look mem t<;>rfl
theorem uP {live:List Nat} {d o:Nat}:dI live (.aT d o)=live.contains d:=rfl
theorem y9 {live:List Nat} {l:List PV} {τ:Nat}:dI live (.own l τ)=true:=rfl
theorem BK {live:List Nat}:dI live .un=true:=rfl
theorem BL {live:List Nat} {p:PV}:dI live (.pv p)=true:=rfl
theorem y_ {live:List Nat} {l:List PV}:dI live (.bR l)=true:=rfl
theorem za {live:List Nat} {l:List AV}:dI live (.agg l)=eJ l:=rfl
theorem uQ:eJ []=true:=rfl
theorem r7 {v:AV} {r:List AV}:eJ (v::r)=(fc v && eJ r):=rfl
theorem zb {l:List PV} {τ:Nat}:fc (.own l τ)=true:=rfl
theorem BM {p:PV}:fc (.pv p)=true:=rfl
theorem zc {l:List PV}:fc (.bR l)=true:=rfl
theorem uR {a b:Nat}:fc (.ba a b)=true:=rfl
theorem uS {a b c:Nat} {d:Bool}:fc (.bd a b c d)=true:=rfl
theorem BN {a:Nat} {c:List AV}:fc (.fn a c)=bg.dr c:=rfl
theorem zd {c:List AV}:fc (.agg c)=bg.dr c:=rfl
theorem uT:fc .cM=true:=rfl
theorem BO:fc .un=true:=rfl
theorem uU {s:Nat}:fc (.ck s)=true:=rfl
theorem ze {live:List Nat} {l:List AV}:dI live (.jH l)=bg.dr l:=rfl
theorem uV {live:List Nat} {a b:Nat}:dI live (.ba a b)=true:=rfl
theorem uW {live:List Nat} {a:List PV}:dI live (.cQ a)=true:=rfl
theorem uX {live:List Nat} {a b c:Nat} {d:Bool}:dI live (.bd a b c d)=true:=rfl
theorem BP {live:List Nat} {a:Nat} {c:List AV}:dI live (.fn a c)=bg.dr c:=rfl
theorem uY {live:List Nat}:dI live .cM=true:=rfl
theorem uZ {s:Nat} {live:List Nat}:dI live (.ck s)=true:=rfl
theorem look_nil {α:Type} {t:Nat}:look ([]:List (Nat×α)) t=none:=rfl
theorem zg {α:Type} {k t:Nat} {v:α} {r:List (Nat×α)}:look ((k,v)::r) t=if k=t then some v else look r t:=rfl
theorem BQ {α:Type} {t:Nat} {v:α}:db ([]:List (Nat×α)) t v=[(t,v)]:=rfl
theorem zh {α:Type} {k t:Nat} {v u:α} {r:List (Nat×α)}:db ((k,v)::r) t u=if k=t then (k,u)::r else (k,v)::db r t u:=rfl
theorem zi {env:List (Nat×AV)} {d:Nat} {v:AV}:eU env (some d) v=db env d v:=rfl
theorem zj {env:List (Nat×AV)} {v:AV}:eU env none v=env:=rfl
theorem zk {mem:List (Nat×List AV)} {k:Nat} {cs:List AV}:ew mem (some k) (some cs)=db mem k cs:=rfl
theorem eo {mem:List (Nat×List AV)} {o:Option (List AV)}:ew mem none o=mem:=rfl
theorem u_ {mem:List (Nat×List AV)} {k:Nat}:ew mem (some k) none=mem:=rfl
theorem pU {i:Nat}:bP i []=[]:=rfl
theorem oi {i:Nat} {v:AV} {r:List AV}:bP i (v::r)=(i,v)::bP (i+1) r:=rfl
theorem va {cs:List AV}:aX (.agg cs)=cs:=rfl
theorem r9 {cs:List PV}:aX (.pv (.agg cs))=cs.map .pv:=rfl
theorem r_ {b:Bool}:aX (.pv (.bool b))=[.pv (.bool b)]:=rfl
theorem vb {k:IntKind} {n:Int}:aX (.pv (.int k n))=[.pv (.int k n)]:=rfl
theorem vd {s:List UInt8}:aX (.pv (.str s))=[.pv (.str s)]:=rfl
theorem vf {l:List PV}:aX (.pv (.aI l))=[.pv (.aI l)]:=rfl
theorem vg {l:List PV}:aX (.bR l)=[.bR l]:=rfl
theorem vh {l:List PV} {τ:Nat}:aX (.own l τ)=[.own l τ]:=rfl
theorem sa {a b:Nat}:aX (.ba a b)=[.ba a b]:=rfl
theorem sb {a b c:Nat} {d:Bool}:aX (.bd a b c d)=[.bd a b c d]:=rfl
theorem zm {a:Nat} {c:List AV}:aX (.fn a c)=[.fn a c]:=rfl
theorem sd:aX .cM=[.cM]:=rfl
theorem se {s:Nat}:aX (.ck s)=[(.ck s)]:=rfl
theorem vi {cs:List PV}:aU (.agg cs)=cs:=rfl
theorem sf {b:Bool}:aU (.bool b)=[.bool b]:=rfl
theorem vj {k:IntKind} {n:Int}:aU (.int k n)=[.int k n]:=rfl
theorem vk {s:List UInt8}:aU (.str s)=[.str s]:=rfl
theorem vl {l:List PV}:aU (.aI l)=[.aI l]:=rfl
theorem vm {b:Bool}:aP (.pv (.bool b))=true:=rfl
theorem zn {k:IntKind} {n:Int}:aP (.pv (.int k n))=true:=rfl
theorem zo {s:List UInt8}:aP (.pv (.str s))=true:=rfl
theorem zp {l:List PV}:aP (.pv (.aI l))=true:=rfl
theorem zq {l:List PV}:aP (.bR l)=true:=rfl
theorem zs {l:List PV} {τ:Nat}:aP (.own l τ)=true:=rfl
theorem vn {a b:Nat}:aP (.ba a b)=true:=rfl
theorem vp {a b c:Nat} {d:Bool}:aP (.bd a b c d)=true:=rfl
theorem BR {a:Nat} {c:List AV}:aP (.fn a c)=br.fb c:=rfl
theorem vq:aP .cM=true:=rfl
theorem vr {s:Nat}:aP (.ck s)=true:=rfl
theorem vt {s:List (PV×PV)}:aP (.da s)=true:=rfl
theorem BS {v:AV}:dq v=aP v:=rfl
theorem BT {p:PV}:br (.pv p)=true:=rfl
theorem zt {l:List PV}:br (.bR l)=true:=rfl
theorem vu {a b:Nat}:br (.ba a b)=true:=rfl
theorem vv {a b c:Nat} {d:Bool}:br (.bd a b c d)=true:=rfl
theorem vw:br .cM=true:=rfl
theorem vz {s:Nat}:br (.ck s)=true:=rfl
theorem BU {a:Nat} {c:List AV}:br (.fn a c)=br.fb c:=rfl
theorem zu {c:List AV}:br (.agg c)=br.fb c:=rfl
theorem zw:br.fb []=true:=rfl
theorem vA {v:AV} {r:List AV}:br.fb (v::r)=(br v && br.fb r):=rfl
theorem zx {l:List PV} {τ:Nat}:bD (.own l τ)=true:=rfl
theorem BV {p:PV}:bD (.pv p)=true:=rfl
theorem zy {l:List PV}:bD (.bR l)=true:=rfl
theorem vB {a b:Nat}:bD (.ba a b)=true:=rfl
theorem vC {a b c:Nat} {d:Bool}:bD (.bd a b c d)=true:=rfl
theorem vD:bD .cM=true:=rfl
theorem vE {s:Nat}:bD (.ck s)=true:=rfl
theorem BW {a:Nat} {c:List AV}:bD (.fn a c)=br.fb c:=rfl
theorem zz {c:List AV}:bD (.agg c)=d5 c:=rfl
theorem vF:d5 []=true:=rfl
theorem sg {v:AV} {r:List AV}:d5 (v::r)=(fe v && d5 r):=rfl
theorem zA {l:List PV} {τ:Nat}:fe (.own l τ)=true:=rfl
theorem BX {p:PV}:fe (.pv p)=true:=rfl
theorem zB {l:List PV}:fe (.bR l)=true:=rfl
theorem vG {a b:Nat}:fe (.ba a b)=true:=rfl
theorem vH {a b c:Nat} {d:Bool}:fe (.bd a b c d)=true:=rfl
theorem vJ:fe .cM=true:=rfl
theorem vK {s:Nat}:fe (.ck s)=true:=rfl
theorem BY {a:Nat} {c:List AV}:fe (.fn a c)=br.fb c:=rfl
theorem zC {c:List AV}:fe (.agg c)=br.fb c:=rfl
theorem zD:bg.dr []=true:=rfl
theorem vL {v:AV} {r:List AV}:bg.dr (v::r)=(bg v && bg.dr r):=rfl
theorem BZ {p:PV}:bg (.pv p)=true:=rfl
theorem zE {l:List PV}:bg (.bR l)=true:=rfl
theorem zF {l:List PV} {τ:Nat}:bg (.own l τ)=false:=rfl
theorem vM {a b:Nat}:bg (.ba a b)=true:=rfl
theorem vN {a b c:Nat} {d:Bool}:bg (.bd a b c d)=true:=rfl
theorem B0 {a:Nat} {c:List AV}:bg (.fn a c)=bg.dr c:=rfl
theorem vO:bg .cM=true:=rfl
theorem vP {s:Nat}:bg (.ck s)=true:=rfl
theorem B1:bg .un=true:=rfl
theorem vQ {a b:Nat}:bg (.aT a b)=false:=rfl
theorem zG {c:List AV}:bg (.agg c)=bg.dr c:=rfl
theorem zH {n:Nat} {p:PV}:az n (.pv p)=true:=rfl
theorem vR {n:Nat} {l:List PV}:az n (.bR l)=true:=rfl
theorem vS {n:Nat} {l:List PV} {τ:Nat}:az n (.own l τ)=true:=rfl
theorem sj {n:Nat}:az n .cM=true:=rfl
theorem sk {s:Nat} {n:Nat}:az n (.ck s)=decide (s<n):=rfl
theorem sl {s:List (PV×PV)} {n:Nat}:az n (.da s)=true:=rfl
theorem sn {n a b:Nat}:az n (.ba a b)=decide (a<n):=rfl
theorem sq {n a b c:Nat} {d:Bool}:az n (.bd a b c d)=decide (a<n):=rfl
theorem zI {n a:Nat} {c:List AV}:az n (.fn a c)=az.bZ n c:=rfl
theorem vT {n:Nat} {c:List AV}:az n (.agg c)=az.bZ n c:=rfl
theorem sr {n:Nat}:az.bZ n []=true:=rfl
theorem pV {n:Nat} {v:AV} {r:List AV}:az.bZ n (v::r)=(az n v && az.bZ n r):=rfl
theorem vU {n τ:Nat} {l:List PV}:bS n (.own l τ)=.own l (τ+n):=rfl
theorem oR {n:Nat} {p:PV}:bS n (.pv p)=.pv p:=rfl
theorem vV {n:Nat} {p:List PV}:bS n (.bR p)=.bR p:=rfl
def pW (n:Nat) (p:List AV):Bool→AV
 | true=>.agg p
 | false=>.agg (p.map (d6 n))
theorem vW {n:Nat} {p:List AV}:bS n (.agg p)=pW n p (bg.dr p):=by
 simp only [bS]
 cases bg.dr p<;>rfl
theorem pX {n:Nat} {p:List AV}:pW n p true=.agg p:=rfl
theorem oj {n:Nat} {p:List AV}:pW n p false=.agg (p.map (d6 n)):=rfl
theorem vX {n τ:Nat} {l:List PV}:d6 n (.own l τ)=.own l (τ+n):=rfl
theorem zJ {n:Nat} {p:PV}:d6 n (.pv p)=.pv p:=rfl
theorem vY {n:Nat} {p:List PV}:d6 n (.bR p)=.bR p:=rfl
theorem ss {n a b:Nat}:d6 n (.ba a b)=.ba a b:=rfl
theorem zK {n a:Nat} {b:List AV}:d6 n (.fn a b)=.fn a b:=rfl
theorem su {n a b c:Nat} {d:Bool}:d6 n (.bd a b c d)=.bd a b c d:=rfl
theorem sv {n:Nat}:d6 n .cM=.cM:=rfl
theorem sw {s:Nat} {n:Nat}:d6 n (.ck s)=(.ck s):=rfl
theorem sx {n a b:Nat}:bS n (.ba a b)=.ba a b:=rfl
theorem zL {n a:Nat} {b:List AV}:bS n (.fn a b)=.fn a b:=rfl
theorem sy {n a b c:Nat} {d:Bool}:bS n (.bd a b c d)=.bd a b c d:=rfl
theorem sA {n:Nat}:bS n .cM=.cM:=rfl
theorem sC {s:Nat} {n:Nat}:bS n (.ck s)=(.ck s):=rfl
theorem sD {s:List (PV×PV)} {n:Nat}:bS n (.da s)=(.da s):=rfl
theorem vZ {n:Nat}:eu n []=[]:=rfl
theorem l9 {n:Nat} {r:Sh}:eu n (none::r)=none::eu n r:=rfl
theorem l_ {n:Nat} {cs:List AV} {r:Sh}:eu n (some cs::r)=some (cs.map (bS n))::eu n r:=rfl
theorem om {b:Bool}:bq.zeroCell (.bool b)=.pv (.bool b):=rfl
theorem pY {k:IntKind} {n:Int}:bq.zeroCell (.int k n)=.pv (.int k n):=rfl
theorem pZ {s:List UInt8}:bq.zeroCell (.str s)=.pv (.str s):=rfl
theorem p0:bq.zeroCell (.aI [])=.bR []:=rfl
theorem sE {l:List PV}:bK (.bR l)=[.bR l]:=rfl
theorem sF {l:List PV} {τ:Nat}:bK (.own l τ)=[.own l τ]:=rfl
theorem v5 {p:PV}:bK (.pv p)=aX (.pv p):=rfl
theorem p6 {a b:Nat}:bK (.ba a b)=[.ba a b]:=rfl
theorem p7 {a b c:Nat} {d:Bool}:bK (.bd a b c d)=[.bd a b c d]:=rfl
theorem v7 {a:Nat} {c:List AV}:bK (.fn a c)=[.fn a c]:=rfl
theorem p8:bK .cM=[.cM]:=rfl
theorem p9 {s:Nat}:bK (.ck s)=[(.ck s)]:=rfl
def xm (cs:List AV):Option (List PV)→List AV
 | some ps=>ps.map .pv
 | none=>cs
theorem sG {cs:List AV}:bK (.agg cs)=xm cs (dH [] cs):=by
 show (match eM [] (.agg cs) with | some p=>aX (.pv p) | none=>aX (.agg cs))=_
 have h:eM [] (.agg cs)=(dH [] cs).map .agg:=rfl
 unfold xm
 rw [h]
 cases dH [] cs<;>rfl
theorem v9 {cs:List AV} {ps:List PV}:xm cs (some ps)=ps.map .pv:=rfl
theorem v_ {cs:List AV}:xm cs none=cs:=rfl
theorem GR {o:AH}:AK.key (.v o)=none:=rfl
theorem zM {k o s:Nat} {a:Bool}:AK.key (.de k o s a)=some k:=rfl
theorem wa {k o s:Nat}:AK.key (.d4 k o s)=some k:=rfl
theorem zN {k:Nat} {z:List PV}:AK.key (.alloc k z)=some k:=rfl
theorem DO {k s:Nat}:AK.key (.box k s)=some k:=rfl
theorem zP {s:Nat} {a:Bool}:AK.key (.aR s a)=none:=rfl
theorem wb {s:Nat}:AK.key (.cz s)=none:=rfl
theorem B2 {s:Nat}:AK.key (.kX s)=none:=rfl
theorem wc {s:List PV}:AK.key (.gl s)=none:=rfl
theorem zQ {s b:Nat} {a:Bool} {z:List PV}:AK.key (.jI s b a z)=none:=rfl
theorem sH {s b:Nat} {ag:Bool}:AK.key (.cI s b ag)=none:=rfl
theorem we {s b:Nat}:AK.key (.append s b)=none:=rfl
theorem zR {g:Nat}:AK.key (.aB g)=none:=rfl
theorem wg {g:Nat}:AK.key (.eI g)=none:=rfl
theorem zS {g:Nat}:AK.key (.hP g)=none:=rfl
theorem zT {g:Nat} {o:List Nat}:AK.key (.aA g o)=none:=rfl
theorem zU:AK.kj.key=none:=rfl
theorem zV {c:CK} {ok:Bool} {z:PV}:(AK.hH c ok z).key=none:=rfl
theorem B3 {c:CK}:(AK.mG c).key=none:=rfl
theorem zW {sz bytes:Nat}:(AK.clone sz bytes).key=none:=rfl
theorem zX:AK.key .eB=none:=rfl
theorem bind_none {f:Nat→Option (List AV)}:(none:Option Nat).bind f=none:=rfl
theorem bind_some {f:Nat→Option (List AV)} {n:Nat}:(some n).bind f=f n:=rfl
theorem wh {sz off:Nat} {cs:List AV}:bN true sz cs off=if off+sz≤cs.length then some (.agg ((cs.drop off).take sz)) else none:=rfl
theorem sI {off:Nat} {cs:List AV}:bN false 1 cs off=if off+1≤cs.length then cs[off]? else none:=rfl
theorem sJ {sz:Nat} {cs:List PV}:ca true sz cs=if sz≤cs.length then some (.pv (.agg (cs.take sz))) else none:=rfl
theorem p_ {c:PV} {cs:List PV}:ca false 1 (c::cs)=some (.pv c):=by simp [ca]
theorem dK {cs vs:List AV} {off:Nat}:aN cs off vs=cs.take off++vs++cs.drop (off+vs.length):=rfl
theorem FZ {x:AV}:bq .mv [x]=some x:=rfl
theorem B4 {c:Bool} {a b:AV}:bq .pick [.pv (.bool c),a,b]=if c=true then some a else some b:=by cases c<;>rfl
theorem DP {i:Nat} {vs:List AV}:bq (.ext i) [.jH vs]=vs[i]?:=rfl
theorem zY {off sz:Nat} {ag:Bool} {cs:List AV}:bq (.field off sz ag) [.agg cs]=bN ag sz cs off:=rfl
theorem wi {off sz:Nat} {ag:Bool} {cs:List PV}:bq (.field off sz ag) [.pv (.agg cs)]=ca ag sz (cs.drop off):=rfl
theorem wj {off d o:Nat}:bq (.b_ off) [.aT d o]=some (.aT d (o+off)):=rfl
theorem wk {off d o:Nat}:bq (.b_ off) [.ba d o]=some (.ba d (o+off)):=rfl
theorem wm {off:Nat} {cs:List PV}:bq (.b_ off) [.cQ cs]=some (.cQ (cs.drop off)):=rfl
def wo (sz:Nat):Option PV→Option AV
 | some el=>if (aU el).length=sz then some (.cQ (aU el)) else none
 | none=>none
theorem sK {sz:Nat} {el:PV}:wo sz (some el)=if (aU el).length=sz then some (.cQ (aU el)) else none:=rfl
theorem zZ {sz:Nat} {l:List PV} {k:IntKind} {i:Int}:bq (.aH sz) [.pv (.aI l),.pv (.int k i)]=if i<0 then none else wo sz l[i.toNat]?:=by
 show (if i<0 then none else _)=_
 split
 · rfl
 · show (match l[i.toNat]? with | some el=>_ | none=>_)=_
   cases l[i.toNat]?<;>rfl
theorem wq {sz:Nat} {l:List PV} {k:IntKind} {i:Int}:bq (.aH sz) [.bR l,.pv (.int k i)]=if i<0 then none else wo sz l[i.toNat]?:=by
 show (if i<0 then none else _)=_
 split
 · rfl
 · show (match l[i.toNat]? with | some el=>_ | none=>_)=_
   cases l[i.toNat]?<;>rfl
theorem wt {sz b sz' n:Nat} {ag:Bool} {k:IntKind} {i:Int}:bq (.aH sz) [.bd b sz' n ag,.pv (.int k i)]=if i<0 then none else if sz=sz'∧i.toNat<n then some (.ba b (i.toNat*sz)) else none:=rfl
def GS:Option UInt8→Option AV
 | some b=>some (.pv (.int .u8 b.toNat))
 | none=>none
theorem wu {b:UInt8}:GS (some b)=some (.pv (.int .u8 b.toNat)):=rfl
def GU:Option (List AV)→Option AV
 | some cs=>some (.agg cs)
 | none=>none
theorem z3 {cs:List AV}:GU (some cs)=some (.agg cs):=rfl
theorem z4 {zero:List PV} {places:List (Nat×Nat)}:bq (.build zero places) vals=GU (iQ (zero.map bq.zeroCell) places vals):=by
 show (iQ _ _ _).map _=_
 cases iQ (zero.map bq.zeroCell) places vals<;>rfl
theorem z5 {cs:List AV}:iQ cs [] []=some cs:=rfl
theorem wv {cs:List AV} {off sz:Nat} {ps:List (Nat×Nat)} {v:AV} {vs:List AV}:iQ cs ((off,sz)::ps) (v::vs) =
   if (aX v).length=sz∧off+sz≤cs.length∧(aX v).all aP=true then iQ (aN cs off (aX v)) ps vs else none:=rfl
def GV (sz:Nat):Option (List PV)→Option AV
 | some els=>if els.all (fun e=>(aU e).length == sz) then some (.bR els) else none
 | none=>none
theorem z6 {sz:Nat} {els:List PV}:GV sz (some els)=if els.all (fun e=>(aU e).length == sz) then some (.bR els) else none:=rfl
theorem wx {sz:Nat}:bq (.a6 sz) vals=GV sz (cp [] vals):=by
 show (cp [] vals).bind _=_
 cases cp [] vals<;>rfl
theorem z7 {sz:Nat} {ag:Bool} {cs:List PV}:bq (.aS sz ag) [.cQ cs]=ca ag sz cs:=rfl
theorem DQ {l:List PV}:bq .len [.pv (.aI l)]=some (.pv (.int .i64 l.length)):=rfl
theorem B5 {l:List PV}:bq .len [.bR l]=some (.pv (.int .i64 l.length)):=rfl
theorem B6 {l:List PV} {τ:Nat}:bq .len [.own l τ]=some (.pv (.int .i64 l.length)):=rfl
theorem B7 {a b n:Nat} {d:Bool}:bq .len [.bd a b n d]=some (.pv (.int .i64 n)):=rfl
theorem B8 {s:List UInt8}:bq .il [.pv (.str s)]=some (.pv (.int .i64 s.length)):=rfl
theorem B9 {a b:Nat}:bq .aQ [.aT a b]=some (.aT a b):=rfl
theorem B_ {a b:Nat}:bq .aQ [.ba a b]=some (.ba a b):=rfl
theorem B' {a:List PV}:bq .aQ [.cQ a]=some (.cQ a):=rfl
theorem Ca {a:Nat} {b:List AV}:bq .aQ [.fn a b]=some (.fn a b):=rfl
theorem F3 {k k':IntKind} {x y:Int}:bq .mn [.pv (.int k x),.pv (.int k' y)]=if k=k' then some (.pv (.int k (if y<x then y else x))) else none:=rfl
theorem F4 {k k':IntKind} {x y:Int}:bq .mx [.pv (.int k x),.pv (.int k' y)]=if k=k' then some (.pv (.int k (if y > x then y else x))) else none:=rfl
theorem Cb {g:Nat}:bq (.AL g) vals=some (.fn g vals):=by cases vals<;>rfl
theorem Cc {k k':IntKind} {n:Int}:bq (.conv k) [.pv (.int k' n)]=some (.pv (.int k (k.wrap n))):=rfl
theorem DR {b:Bool}:bq (.un .not) [.pv (.bool b)]=some (.pv (.bool !b)):=rfl
theorem DS {k:IntKind} {n:Int}:bq (.un .neg) [.pv (.int k n)]=some (.pv (.int k (k.wrap (0-n)))):=rfl
theorem DT {a b:Bool}:bq (.beq false) [.pv (.bool a),.pv (.bool b)]=some (.pv (.bool (a == b))):=rfl
theorem DU {a b:Bool}:bq (.beq true) [.pv (.bool a),.pv (.bool b)]=some (.pv (.bool !(a == b))):=rfl
theorem DV {k:IntKind} {a b:Int}:bq (.bin .add) [.pv (.int k a),.pv (.int k b)]=some (.pv (.int k (k.wrap (a+b)))):=by simp [bq,cK]
theorem DW {k:IntKind} {a b:Int}:bq (.bin .sub) [.pv (.int k a),.pv (.int k b)]=some (.pv (.int k (k.wrap (a-b)))):=by simp [bq,cK]
theorem DX {k:IntKind} {a b:Int}:bq (.bin .rem) [.pv (.int k a),.pv (.int k b)]=if b=0 then none else some (.pv (.int k (a.tmod b))):=by simp [bq,cK]
theorem DY {k:IntKind} {a b:Int}:bq (.bin .eql) [.pv (.int k a),.pv (.int k b)]=some (.pv (.bool (a == b))):=by simp [bq,cK]
theorem DZ {k:IntKind} {a b:Int}:bq (.bin .neq) [.pv (.int k a),.pv (.int k b)]=some (.pv (.bool (a != b))):=by simp [bq,cK]
theorem D0 {k:IntKind} {a b:Int}:bq (.bin .lss) [.pv (.int k a),.pv (.int k b)]=some (.pv (.bool (decide (a<b)))):=by simp [bq,cK]
theorem D1 {k:IntKind} {a b:Int}:bq (.bin .leq) [.pv (.int k a),.pv (.int k b)]=some (.pv (.bool (decide (a≤b)))):=by simp [bq,cK]
theorem D2 {k:IntKind} {a b:Int}:bq (.bin .gtr) [.pv (.int k a),.pv (.int k b)]=some (.pv (.bool (decide (a > b)))):=by simp [bq,cK]
theorem D3 {k:IntKind} {a b:Int}:bq (.bin .geq) [.pv (.int k a),.pv (.int k b)]=some (.pv (.bool (decide (a≥b)))):=by simp [bq,cK]
theorem D4 {k:IntKind} {a b:Int}:bq (.bin .and) [.pv (.int k a),.pv (.int k b)]=some (.pv (.int k (k.wrap (BitVec.ofInt k.bits a &&& BitVec.ofInt k.bits b).toNat))):=by simp [bq,cK]
theorem D5 {k k':IntKind} {a b:Int}:bq (.bin .shr) [.pv (.int k a),.pv (.int k' b)]=if b<0 then none else some (.pv (.int k (a.fdiv (2 ^ (min b.toNat k.bits))))):=by simp [bq,cK]
theorem D6 {a b:List UInt8}:bq (.bin .add) [.pv (.str a),.pv (.str b)]=if a.length+b.length≤9223372036854775807 then some (.pv (.str (a++b))) else none:=rfl
theorem Cd {a b:List UInt8}:bq (.bin .eql) [.pv (.str a),.pv (.str b)]=some (.pv (.bool (a == b))):=rfl
theorem Ce {a b:List UInt8}:bq (.bin .neq) [.pv (.str a),.pv (.str b)]=some (.pv (.bool (!(a == b)))):=rfl
theorem Cf {a b:List UInt8}:bq (.bin .lss) [.pv (.str a),.pv (.str b)]=some (.pv (.bool (cK.eT a b))):=rfl
theorem Cg {a b:List UInt8}:bq (.bin .gtr) [.pv (.str a),.pv (.str b)]=some (.pv (.bool (!(cK.eT a b || a == b)))):=rfl
theorem z8 {sz:Nat} {lo hi mx:Bool} {x:AV} {rest:List AV}:bq (.slice false sz lo hi mx) (x::rest)=eG false sz lo hi mx (x::rest):=rfl
theorem wy {sz:Nat} {lo hi mx:Bool} {x:AV} {rest:List AV}:bq (.slice true sz lo hi mx) (x::rest)=eG true sz lo hi mx (x::rest):=rfl
def kc (aM ks:Bool) (sh0 sh:Sh) (aa:au):Option (List AV)→Option (List AV×Sh×au)
 | some vs=>if (bU aM ks sh vs).all bD=true then
     some ((cr aa (bU aM ks sh vs) (if (bU aM ks sh vs).all (az sh0.length)=true then (dX aM ks sh vs).take sh0.length else dX aM ks sh vs)).1,
       (cr aa (bU aM ks sh vs) (if (bU aM ks sh vs).all (az sh0.length)=true then (dX aM ks sh vs).take sh0.length else dX aM ks sh vs)).2.1,
       (cr aa (bU aM ks sh vs) (if (bU aM ks sh vs).all (az sh0.length)=true then (dX aM ks sh vs).take sh0.length else dX aM ks sh vs)).2.2.2) else none
 | none=>none
theorem sL {aM ks:Bool} {sh0:Sh} {vs:List AV}:kc aM ks sh0 sh aa (some vs)=if (bU aM ks sh vs).all bD=true then
     some ((cr aa (bU aM ks sh vs) (if (bU aM ks sh vs).all (az sh0.length)=true then (dX aM ks sh vs).take sh0.length else dX aM ks sh vs)).1,
       (cr aa (bU aM ks sh vs) (if (bU aM ks sh vs).all (az sh0.length)=true then (dX aM ks sh vs).take sh0.length else dX aM ks sh vs)).2.1,
       (cr aa (bU aM ks sh vs) (if (bU aM ks sh vs).all (az sh0.length)=true then (dX aM ks sh vs).take sh0.length else dX aM ks sh vs)).2.2.2) else none:=rfl
def fin (aM ks:Bool) (rs:List mH) (sh0:Sh):Option (aO×St)→Option (List AV×Sh×au)
 | some (.ret,st)=>kc aM ks sh0 st.sh st.aa (dB st rs)
 | some (.normal,st)=>kc aM ks sh0 st.sh st.aa (dB st rs)
 | _=>none
theorem D7 {aM ks:Bool} {rs:List mH} {sh0:Sh} {st:St}:fin aM ks rs sh0 (some (.ret,st))=kc aM ks sh0 st.sh st.aa (dB st rs):=rfl
theorem wz {aM ks:Bool} {rs:List mH} {sh0:Sh} {st:St}:fin aM ks rs sh0 (some (.normal,st))=kc aM ks sh0 st.sh st.aa (dB st rs):=rfl
theorem D9 {aM ks:Bool} {rs:List mH} {sh0:Sh} {c:Prop} [Decidable c] {x y:Option (aO×St)}:fin aM ks rs sh0 (if c then x else y)=if c then fin aM ks rs sh0 x else fin aM ks rs sh0 y:=by split<;>rfl
theorem oS {aM:Bool} {af:aC} {sh0:Sh} {r:Option (aO×St)}:finish aM af sh0 r=fin aM af.ks af.results sh0 r:=by
 cases r with
 | none=>rfl
 | some q=>
   obtain ⟨e,st⟩:=q
   cases e with
   | ret=>simp only [finish,fin];cases dB st af.results<;>simp [kc]
   | normal=>simp only [finish,fin];cases dB st af.results<;>simp [kc]
   | exit id=>simp [finish,fin]
theorem wA {st:St}:dB st []=some []:=rfl
theorem sM {st:St} {r:mH} {rs:List mH}:dB st (r::rs)=l8 (lE st r) (dB st rs):=by
 simp only [dB]
 cases lE st r<;>cases dB st rs<;>rfl
theorem D_ {st:St} {n:Nat}:lE st (.t n)=look st.env n:=rfl
def jB (key sz:Nat) (ag:Bool) (mem:List (Nat×List AV)) (sh:Sh):Option AV→Option AV
 | some (.aT d 0)=>qa key d sz ag (look mem key)
 | some (.ba s 0)=>nk ag sz 0 sh[s]?
 | _=>none
where qa (key d sz:Nat) (ag:Bool):Option (List AV)→Option AV
 | some cs=>if d=key then bN ag sz cs 0 else none
 | none=>none
theorem D' {st:St} {key sz:Nat} {ag:Bool}:lE st (.c key sz ag)=jB key sz ag st.mem st.sh (look st.env key):=by
 simp only [lE]
 unfold jB
 split
 · rename_i h;rw [h];rfl
 · rename_i h;rw [h];rfl
 · rename_i h1 h2
   split
   · rename_i d e;exact absurd e (h1 d)
   · rename_i s e;exact absurd e (h2 s)
   · rfl
theorem qb {key sz d:Nat} {ag:Bool} {mem:List (Nat×List AV)}:jB key sz ag mem sh (some (.aT d 0))=jB.qa key d sz ag (look mem key):=rfl
theorem qc {key sz d:Nat} {ag:Bool} {cs:List AV}:jB.qa key d sz ag (some cs)=if d=key then bN ag sz cs 0 else none:=rfl
theorem sN {key sz s:Nat} {ag:Bool} {mem:List (Nat×List AV)}:jB key sz ag mem sh (some (.ba s 0))=nk ag sz 0 sh[s]?:=rfl
theorem qd {vs:List AV} {ks:Bool}:bU false ks sh vs=vs.map (mM sh):=rfl
theorem sP {vs:List AV}:bU true false sh vs=vs.map (kY sh):=rfl
theorem z9 {vs:List AV}:bU true true sh vs=vs:=rfl
theorem sQ {vs:List AV} {ks:Bool}:dX false ks sh vs=dL sh vs:=rfl
theorem wB {vs:List AV}:dX true false sh vs=dL sh vs:=rfl
theorem Ch {vs:List AV}:dX true true sh vs=sh:=rfl
def Ci (v:AV):Option PV→AV
 | some p=>.pv p
 | none=>v
theorem z_ {v:AV} {p:PV}:Ci v (some p)=.pv p:=rfl
theorem Aa {v:AV}:Ci v none=v:=rfl
theorem Cj {v:AV}:mM sh v=Ci v (eM sh v):=rfl
theorem Ck {l:List PV}:kY sh (.bR l)=.bR l:=rfl
theorem Cl {l:List PV} {τ:Nat}:kY sh (.own l τ)=.own l τ:=rfl
theorem Cm {cs:List AV}:kY sh (.agg cs)=.agg (cs.map (jT sh)):=rfl
theorem Ea {p:PV}:kY sh (.pv p)=.pv p:=rfl
theorem Ac {a b:Nat}:kY sh (.ba a b)=.ba a b:=rfl
theorem Eb {a:Nat} {b:List AV}:kY sh (.fn a b)=.fn a b:=rfl
theorem Ad:kY sh .cM=.cM:=rfl
theorem Ae {s:Nat}:kY sh (.ck s)=(.ck s):=rfl
theorem Af {a b c:Nat} {d:Bool}:kY sh (.bd a b c d)=Ci (.bd a b c d) (eM sh (.bd a b c d)):=rfl
theorem Cn {l:List PV}:jT sh (.bR l)=.bR l:=rfl
theorem Co {l:List PV} {τ:Nat}:jT sh (.own l τ)=.pv (.aI l):=rfl
theorem Ag {b:Bool}:jT sh (.pv (.bool b))=.pv (.bool b):=rfl
theorem Cp {k:IntKind} {n:Int}:jT sh (.pv (.int k n))=.pv (.int k n):=rfl
theorem Cq {s:List UInt8}:jT sh (.pv (.str s))=.pv (.str s):=rfl
theorem Cr {l:List PV}:jT sh (.pv (.aI l))=.pv (.aI l):=rfl
theorem Ah {a b:Nat}:jT sh (.ba a b)=.ba a b:=rfl
theorem Ai:jT sh .cM=.cM:=rfl
theorem Aj {s:Nat}:jT sh (.ck s)=(.ck s):=rfl
theorem Ak {a b c:Nat} {d:Bool}:jT sh (.bd a b c d)=Ci (.bd a b c d) (eM sh (.bd a b c d)):=rfl
theorem wC {vs:List AV}:dL sh vs=kill sh (vs.flatMap er):=rfl
theorem Cs:kill sh []=sh:=rfl
theorem Al {b:Nat} {l:List Nat}:kill sh (b::l)=kill (sh.set b none) l:=rfl
theorem Am {a b c:Nat} {d:Bool}:er (.bd a b c d)=[a]:=rfl
theorem Ec {p:PV}:er (.pv p)=[]:=rfl
theorem Ct {l:List PV} {τ:Nat}:er (.own l τ)=[]:=rfl
theorem Cu {l:List PV}:er (.bR l)=[]:=rfl
theorem Ao {a b:Nat}:er (.ba a b)=[]:=rfl
theorem Ed {a:Nat} {b:List AV}:er (.fn a b)=[]:=rfl
theorem Ap:er .cM=[]:=rfl
theorem Aq {s:Nat}:er (.ck s)=[]:=rfl
def jN:AV→List Nat
 | .bd b _ _ _=>[b]
 | _=>[]
theorem Cv {cs:List AV}:er (.agg cs)=cs.flatMap jN:=by
 show cs.flatMap _=cs.flatMap jN
 congr 1
theorem wD {a b c:Nat} {d:Bool}:jN (.bd a b c d)=[a]:=rfl
theorem Cx {p:PV}:jN (.pv p)=[]:=rfl
theorem Au {l:List PV} {τ:Nat}:jN (.own l τ)=[]:=rfl
theorem Av {l:List PV}:jN (.bR l)=[]:=rfl
theorem wE {a b:Nat}:jN (.ba a b)=[]:=rfl
theorem Cy {a:Nat} {b:List AV}:jN (.fn a b)=[]:=rfl
theorem wF:jN .cM=[]:=rfl
theorem wG {s:Nat}:jN (.ck s)=[]:=rfl
theorem wH:ez []=some []:=rfl
theorem sR {p:PV} {r:List AV}:ez (.pv p::r)=l8 (some p) (ez r):=by
 simp only [ez]
 cases ez r<;>rfl
def jC:Option (List AV×Sh×au)→Option (List PV)
 | some (rs,_,_)=>ez rs
 | none=>none
theorem qe {rs:List AV} {t:au}:jC (some (rs,sh,t))=ez rs:=rfl
theorem sS {c:Prop} [Decidable c] {x y:Option (List AV×Sh×au)}:jC (if c then x else y)=if c then jC x else jC y:=by split<;>rfl
theorem aJ {g:Nat} {af:aC} {x:List PV} (hg:AP g=some af) (h1:x.length=af.nparams) (h2:af.nparams≤af.ntmps) (hp:af.mI=none:=by rfl) :
   (aW AP).p g x=jC (fin false af.ks af.results [] (cl AP af.body ⟨bP 0 (x.map .pv),[],[],[]⟩)):=by
 rw [EX hg hp h1 (by omega)]
 unfold jM jC
 rw [oS]
 cases fin false af.ks af.results [] (cl AP af.body ⟨bP 0 (x.map .pv),[],[],[]⟩)<;>rfl
theorem aZ {g:Nat} {af:aC} {x:List AV} {ts:au} (hg:AP g=some af) (h2:x.length≤af.ntmps) :
   (aW AP).i g x sh ts=fin true af.ks af.results sh (cl AP af.body ⟨bP 0 x,[],sh,ts⟩):=by
 rw [EY hg h2,←oS]
 rfl
end
attribute [simp] yb rB yc rC tO pI yd tP ye pJ yf tQ yg yh tR pK rD tS A5 Dy GN Dz A6 yk yl rG tT tU ym FL ft fK gB i6 rH l5 rI kP gS jr gT ix yx gU oh yy yz Bi yN yO uc rO yP kb ud rP yQ Bk Bl ue gG ug rR Bn yS yT uh Bo ui uj yU rS um uo rT DG DH Bp uq rU yV ur DI Bq Br FX DJ DK yW DL uu rV rW pP uv pQ Bs FY Bt pS Bv yX Bw Bx By Bz BA BB BC yY nq yZ nr nu y1 uw y2 ux y3 y4 BD rX y5 y8 uE uF uG uH BG uI DN r5 uL uM mu lq uN uO mw lr uP y9 BK BL y_ za ze uV uW uX BP uY look_nil zg BQ zh zi zj zk eo u_ pU oi va r9 r_ vb vd vf vg vh sa sb zm sd vi sf vj vk vl vm zn zo zp zq zs vn vp BR vq BS BT zt vu vv vw BU zu zw vA zx BV zy vB vC vD BW zz zD vL BZ zE zF vM vN B0 vO B1 vQ zG zH vR vS sj sn sq zI vT sr pV vU oR vV vW sx zL sy sA vZ l9 l_ om pY pZ p0 sE sF v5 p6 p7 v7 p8 sG v9 v_ GR zM wa zN DO zP wb B2 wc zQ we zR wg zT zX bind_none bind_some wh sI sJ p_ dK FZ B4 DP zY wi wj wk wm sK zZ wq wt wu z3 z4 z5 wv z6 wx z7 DQ B5 B6 B7 B8 B9 B_ B' Ca F3 F4 Cb Cc DR DS DT DU DV DW DX DY DZ D0 D1 D2 D3 D4 D5 D6 Cd Ce Cf Cg z8 wy sL D7 wz D9 wA sM D_ D' qb qc sN qd sP z_ Aa Cj Ck Cl Cm Ea Ac Eb Ad Af Cn Co Ag Cp Cq Cr Ah Ai Ak wC Cs Al Am Ec Ct Cu Ao Ed Ap Cv wD Cx Au Av wE Cy wF wH sR qe sS uk pR Bu uJ uK uZ se vr vt vz vE vP sk sl sC sD p9 Ae Aj Aq wG A8 DA A9 A_ yn yo DB yp yq yt iy gC js jY yu pN og nm yv oP zU zV B3 zW yw oQ DC yR l7 uf rY pT uz rZ y6 BE y7 uA uB BF uC uD uQ r7 zb BM zc uR uS BN zd uT BO uU vF sg zA BX zB vG vH vJ vK BY zC pX oj vX zJ vY ss zK su sv sw z9 sQ wB Ch zS yB Ba tV iA rJ Bc Bd yC DD Bf yE yF yG yH yI yD tX tY tZ sH yJ rK t9 rL t5 iz t6 yK t7 yL gi Bh yM t8 rN t_ ua ub FK Du Dv FI A3 List.getElem?_cons_zero
theorem aL {n:Int} (h1:-9223372036854775808≤n) (h2:n≤9223372036854775807):IntKind.i64.wrap n=n:=by
 simp [IntKind.wrap,IntKind.bits,IntKind.signed]
 omega
end Go.Ab.Ev
