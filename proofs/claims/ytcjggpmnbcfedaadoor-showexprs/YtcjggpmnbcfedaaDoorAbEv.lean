import Derived.Test.YtcjggpmnbcfedaaDoorAbLim
/-
  Rules for running slim code by the simplifier: each is an equation on constructors.
-/
set_option linter.unusedVariables false
set_option linter.unusedSimpArgs false
set_option maxRecDepth 100000
set_option maxHeartbeats 8000000
namespace Go.Ab.Ev
section
variable {AP:Nat→Option aB} {O:dC}
noncomputable def branch (AP:Nat→Option aB) (o:Option AV) (a b:aE) (st:St):Option (aH×St):=
 match o with
 | some (.pv (.bool t))=>if t=true then cl AP a st else cl AP b st
 | _=>none
theorem xg {c:dD} {a b:aE} {st:St}:cl AP (.cond c a b) st=branch AP (eJ st.env c) a b st:=by
 unfold branch
 split
 · rename_i t h
   rw [Cv h]
 · rename_i h
   unfold cl
   refine mC fun k=>?_
   simp only [cI]
theorem qK {t:Bool} {a b:aE} {st:St}:branch AP (some (.pv (.bool t))) a b st=if t=true then cl AP a st else cl AP b st:=rfl
def mF (live:List Nat):Option St→Option (aH×St)
 | some st=>some (.normal,restrict live st)
 | none=>none
theorem xh {ops:List dd} {live:List Nat} {st:St}:cl AP (.aq ops live) st=mF live (bl (aQ AP) ops st):=by
 rw [D6]
 cases bl (aQ AP) ops st<;>rfl
theorem qL {live:List Nat} {st:St}:mF live (some st)=some (.normal,restrict live st):=rfl
theorem sS {live:List Nat} {c:Prop} [Decidable c] {x y:Option St}:mF live (if c then x else y)=if c then mF live x else mF live y:=by split<;>rfl
theorem oU {f:St→Option (aH×St)} {st:St}:after f (some (.normal,st))=f st:=rfl
theorem xi {f:St→Option (aH×St)} {st:St}:after f (some (.ret,st))=some (.ret,st):=rfl
theorem sT {f:St→Option (aH×St)} {st:St} {id:Nat}:after f (some (.exit id,st))=some (.exit id,st):=rfl
theorem xj {f:St→Option (aH×St)} {c:Prop} [Decidable c] {x y:Option (aH×St)}:after f (if c then x else y)=if c then after f x else after f y:=by split<;>rfl
theorem oV {id:Nat} {st:St}:leave id (some (.normal,st))=some (.normal,st):=rfl
theorem xk {id:Nat} {st:St}:leave id (some (.ret,st))=some (.ret,st):=rfl
theorem sU {id id':Nat} {st:St}:leave id (some (.exit id',st))=if id'=id then some (.normal,st) else some (.exit id',st):=rfl
theorem xl {id:Nat} {c:Prop} [Decidable c] {x y:Option (aH×St)}:leave id (if c then x else y)=if c then leave id x else leave id y:=by split<;>rfl
def oW (O:dC) (l:List dd):Option St→Option St
 | some st=>bl O l st
 | none=>none
theorem xm {st:St}:bl O [] st=some st:=rfl
theorem h_ {o:dd} {l:List dd} {st:St}:bl O (o::l) st=oW O l (dp O o st):=by
 simp only [bl]
 cases dp O o st<;>rfl
theorem sV {d:Option Nat} {args:List dD} {op:AK} {l:List dd} {st:St}:bl O (⟨d,none,args,op⟩::l) st=oW O l (dp O ⟨d,none,args,op⟩ st):=h_
theorem oX {l:List dd} {st:St}:oW O l (some st)=bl O l st:=rfl
def z5 (d k:Option Nat) (env:List (Nat×AV)) (mem:List (Nat×List AV)):Option Out→Option St
 | some out=>some { env:=ep env d out.val,mem:=dZ mem k out.cells,sh:=out.sh,aa:=out.aa }
 | none=>none
def z6 (O:dC) (op:AK) (vals:Option (List AV)) (cells:Option (List AV)) (sh:Sh) (aa:au):Option Out:=
 match vals with
 | some vals=>exec O op vals cells sh aa
 | none=>none
theorem sW {d:Option Nat} {args:List dD} {op:AK} {env:List (Nat×AV)} {mem:List (Nat×List AV)} {sh:Sh} {aa:au} :
   dp O ⟨d,none,args,op⟩ ⟨env,mem,sh,aa⟩=z5 d op.key env mem (z6 O op (dc env args) (op.key.bind (look mem)) sh aa):=by
 simp only [dp,dQ]
 cases dc env args with
 | none=>rfl
 | some vals=>
   dsimp only [z6]
   cases exec O op vals (op.key.bind (look mem)) sh aa<;>rfl
def mG (t:Nat) (b:Bool) (o:dd):dd:=
 match o.guard with
 | some (t',b')=>if t'=t then (if b'=b then { o with guard:=none } else ⟨o.dst,none,[.c .un],.v .mv⟩) else o
 | none=>o
def Cf (t:Nat):List dd→Bool
 | []=>true
 | o::l=>(o.dst != some t) && Cf t l
theorem i_ {α:Type} {t t':Nat} {v:α}:∀{l:List (Nat×α)},look (cO l t v) t'=if t'=t then some v else look l t'
 | []=>by
   simp only [cO,look]
   by_cases h:t'=t
   · subst h;simp
   · rw [if_neg (fun e=>h e.symm),if_neg h]
 | (k,u)::r=>by
   simp only [cO]
   by_cases hk:k=t
   · subst hk
     simp only [if_true,look]
     by_cases h:t'=k
     · subst h;simp
     · rw [if_neg (fun e=>h e.symm),if_neg h,if_neg (fun e=>h e.symm)]
   · rw [if_neg hk]
     simp only [look,i_ (l:=r)]
     by_cases h:k=t'
     · subst h;simp [hk]
     · rw [if_neg h,if_neg h]
theorem kG {α:Type} {t:Nat} {v:α}:∀{l:List (Nat×α)},look l t=some v→cO l t v=l
 | [],h=>by simp [look] at h
 | (k,u)::r,h=>by
   simp only [look] at h
   simp only [cO]
   split at h
   · rename_i e;cases h;rw [if_pos e]
   · rename_i e;rw [if_neg e,kG h]
theorem xn {o:dd} {st st':St} {t:Nat} {v:AV} (hd:(o.dst != some t)=true) (h:look st.env t=some v) (e:dp O o st=some st'):look st'.env t=some v:=by
 have key:∀x,look (ep st.env o.dst x) t=some v:=by
   intro x
   cases hdd:o.dst with
   | none=>exact h
   | some d=>
     rw [hdd] at hd
     simp only [ep,i_]
     rw [if_neg (by intro e;subst e;simp at hd)]
     exact h
 simp only [dp] at e
 split at e
 · cases e
 · cases e;exact key _
 · split at e
   · cases e
   · split at e
     · cases e
     · cases e;exact key _
theorem xo {o:dd} {st:St} {t:Nat} {b:Bool} (h:look st.env t=some (.pv (.bool b))):dp O o st=dp O (mG t b o) st:=by
 obtain ⟨d,g,args,op⟩:=o
 cases g with
 | none=>rfl
 | some p=>
   obtain ⟨t',b'⟩:=p
   simp only [mG]
   by_cases ht:t'=t
   · subst ht
     rw [if_pos rfl]
     by_cases hb:b'=b
     · subst hb
       rw [if_pos rfl]
       simp only [dp,dQ,h,beq_self_eq_true]
     · rw [if_neg hb]
       have hb':(b == b')=false:=by simpa using fun e=>hb e.symm
       simp only [dp,dQ,h,hb']
       obtain ⟨env,mem,sh,aa⟩:=st
       rfl
   · rw [if_neg ht]
theorem jD {t:Nat} {b:Bool}:∀{l:List dd} {st:St},Cf t l=true→look st.env t=some (.pv (.bool b))→bl O l st=bl O (l.map (mG t b)) st
 | [],_,_,_=>rfl
 | o::l,st,hn,h=>by
   simp only [Cf,Bool.and_eq_true] at hn
   rw [List.map_cons,h_,h_,←xo h]
   cases e:dp O o st with
   | none=>rfl
   | some st'=>exact jD hn.2 (xn hn.1 h e)
theorem qM {d:Option Nat} {t:Nat} {b:Bool} {args:List dD} {op:AK} {l:List dd} {env:List (Nat×AV)} {mem:List (Nat×List AV)} {sh:Sh} {aa:au} {c:Bool} (h:look env t=some (.pv (.bool c))) (hn:Cf t (⟨d,some (t,b),args,op⟩::l)=true) :
   bl O (⟨d,some (t,b),args,op⟩::l) ⟨env,mem,sh,aa⟩ =
     if c=true then bl O ((⟨d,some (t,b),args,op⟩::l).map (mG t true)) ⟨cO env t (.pv (.bool true)),mem,sh,aa⟩
     else bl O ((⟨d,some (t,b),args,op⟩::l).map (mG t false)) ⟨cO env t (.pv (.bool false)),mem,sh,aa⟩:=by
 cases c with
 | true=>rw [if_pos rfl,kG h];exact jD hn h
 | false=>rw [if_neg (by simp),kG h];exact jD hn h
theorem oY {d:Option Nat} {t:Nat} {b:Bool} {args:List dD} {op:AK} {l:List dd} {env:List (Nat×AV)} {mem:List (Nat×List AV)} {sh:Sh} {aa:au} (h:look env t=some .un) :
   bl O (⟨d,some (t,b),args,op⟩::l) ⟨env,mem,sh,aa⟩=bl O l ⟨ep env d .un,mem,sh,aa⟩:=by
 rw [h_]
 simp only [dp,dQ,h]
 rfl
noncomputable def gd (O:dC) (t:Nat) (ops:List dd) (d:Option Nat) (l:List dd) (env:List (Nat×AV)) (mem:List (Nat×List AV)) (sh:Sh) (aa:au):Option AV→Option St
 | some (.pv (.bool c))=>if Cf t ops=true then (if c=true then bl O (ops.map (mG t true)) ⟨cO env t (.pv (.bool true)),mem,sh,aa⟩
     else bl O (ops.map (mG t false)) ⟨cO env t (.pv (.bool false)),mem,sh,aa⟩) else bl O ops ⟨env,mem,sh,aa⟩
 | some .un=>bl O l ⟨ep env d .un,mem,sh,aa⟩
 | _=>bl O ops ⟨env,mem,sh,aa⟩
theorem z7 {d:Option Nat} {t:Nat} {b:Bool} {args:List dD} {op:AK} {l:List dd} {env:List (Nat×AV)} {mem:List (Nat×List AV)} {sh:Sh} {aa:au} :
   bl O (⟨d,some (t,b),args,op⟩::l) ⟨env,mem,sh,aa⟩=gd O t (⟨d,some (t,b),args,op⟩::l) d l env mem sh aa (look env t):=by
 unfold gd
 split
 · rename_i c h
   split
   · rename_i hn;exact qM h hn
   · rfl
 · rename_i h;exact oY h
 · rfl
theorem Cx {t:Nat} {ops:List dd} {d:Option Nat} {l:List dd} {env:List (Nat×AV)} {mem:List (Nat×List AV)} {sh:Sh} {aa:au} {c:Bool}:gd O t ops d l env mem sh aa (some (.pv (.bool c))) =
   if Cf t ops=true then (if c=true then bl O (ops.map (mG t true)) ⟨cO env t (.pv (.bool true)),mem,sh,aa⟩
     else bl O (ops.map (mG t false)) ⟨cO env t (.pv (.bool false)),mem,sh,aa⟩) else bl O ops ⟨env,mem,sh,aa⟩:=rfl
theorem Fi {t:Nat} {ops:List dd} {d:Option Nat} {l:List dd} {env:List (Nat×AV)} {mem:List (Nat×List AV)} {sh:Sh} {aa:au}:gd O t ops d l env mem sh aa (some .un)=bl O l ⟨ep env d .un,mem,sh,aa⟩:=rfl
theorem Cy {t:Nat}:Cf t []=true:=rfl
theorem z8 {t d:Nat} {g:Option (Nat×Bool)} {args:List dD} {op:AK} {l:List dd}:Cf t (⟨some d,g,args,op⟩::l)=(!(decide (d=t)) && Cf t l):=by
 simp only [Cf]
 congr 1
theorem xp {t:Nat} {b:Bool} {d:Option Nat} {args:List dD} {op:AK}:mG t b ⟨d,none,args,op⟩=⟨d,none,args,op⟩:=rfl
theorem xq {t t':Nat} {b b':Bool} {d:Option Nat} {args:List dD} {op:AK}:mG t b ⟨d,some (t',b'),args,op⟩=if t'=t then (if b'=b then ⟨d,none,args,op⟩ else ⟨d,none,[.c .un],.v .mv⟩) else ⟨d,some (t',b'),args,op⟩:=rfl
theorem qN {d k:Option Nat} {env:List (Nat×AV)} {mem:List (Nat×List AV)} {v:AV} {cs:Option (List AV)} {sh:Sh} {aa:au} :
   z5 d k env mem (some ⟨v,cs,sh,aa⟩)=some ⟨ep env d v,dZ mem k cs,sh,aa⟩:=rfl
theorem sX {op:AK} {vals:List AV} {cells:Option (List AV)} {sh:Sh} {aa:au}:z6 O op (some vals) cells sh aa=exec O op vals cells sh aa:=rfl
def z9 (sh:Sh) (aa:au):Option AV→Option Out
 | some x=>some ⟨x,none,sh,aa⟩
 | none=>none
theorem xt {sh:Sh} {aa:au} {x:AV}:z9 sh aa (some x)=some ⟨x,none,sh,aa⟩:=rfl
variable {vals:List AV} {cells:Option (List AV)} {sh:Sh} {aa:au}
theorem D_ {o:zM}:exec O (.v o) vals cells sh aa=z9 sh aa (a_ o vals):=by
 show (a_ o vals).map _=_
 cases a_ o vals<;>rfl
theorem eP {key off sz d o:Nat} {ag:Bool} {cs:List AV}:exec O (.cD key off sz ag) [.bt d o] (some cs) sh aa=if d=key∧o=off then z9 sh aa (bD ag sz cs off) else none:=by
 show (if d=key∧o=off then (bD ag sz cs off).map _ else none)=_
 cases bD ag sz cs off<;>rfl
theorem eX {key off sz d o:Nat} {v:AV} {cs:List AV}:exec O (.ee key off sz) [.bt d o,v] (some cs) sh aa =
   if d=key∧o=off∧(aL v).length=sz∧(aL v).all aG=true then if off+sz≤cs.length then some ⟨.un,some (aN cs off (aL v)),sh,aa⟩ else none else none:=rfl
theorem fM {key:Nat} {zero:List PV}:exec O (.alloc key zero) [] none sh aa=some ⟨.bt key 0,some (zero.map a_.zeroCell),sh,aa⟩:=rfl
theorem iG {key sz:Nat} {v:AV}:exec O (.box key sz) [v] none sh aa=if (aL v).length=sz∧(aL v).all aG=true then some ⟨.bt key 0,some (aL v),sh,aa⟩ else none:=rfl
theorem qO {sz:Nat} {ag:Bool} {cs:List PV}:exec O (.aJ sz ag) [.cC cs] cells sh aa=z9 sh aa (bS ag sz cs):=by
 show (bS ag sz cs).map _=_
 cases bS ag sz cs<;>rfl
def mH (ag:Bool) (sz off:Nat):Option (Option (List AV))→Option AV
 | some (some cs)=>if cV cs=true then none else bD ag sz cs off
 | _=>none
theorem lB {ag:Bool} {sz off:Nat} {cs:List AV}:mH ag sz off (some (some cs))=if cV cs=true then none else bD ag sz cs off:=rfl
theorem qP {sz b off:Nat} {ag:Bool}:exec O (.aJ sz ag) [.aT b off] cells sh aa=z9 sh aa (mH ag sz off sh[b]?):=by
 show (match sh[b]? with | some (some cs)=>if cV cs=true then none else (bD ag sz cs off).map _ | _=>none)=_
 split
 · rename_i cs h
   rw [h,lB]
   split
   · rfl
   · cases bD ag sz cs off<;>rfl
 · rename_i h
   unfold mH
   split
   · rename_i cs e;exact absurd e (h cs)
   · rfl
def oZ (b off sz:Nat) (vs:List AV) (sh:Sh) (aa:au):Option (Option (List AV))→Option Out
 | some (some cs)=>if cV cs=false∧vs.length=sz∧off+sz≤cs.length∧vs.all cZ=true∧vs.all (aw (b+1))=true then some ⟨.un,none,sh.set b (some (aN cs off vs)),aa⟩ else none
 | _=>none
theorem km {b off sz:Nat} {vs cs:List AV}:oZ b off sz vs sh aa (some (some cs))=if cV cs=false∧vs.length=sz∧off+sz≤cs.length∧vs.all cZ=true∧vs.all (aw (b+1))=true then some ⟨.un,none,sh.set b (some (aN cs off vs)),aa⟩ else none:=rfl
theorem gp {sz b off:Nat} {v:AV}:exec O (.dE sz) [.aT b off,v] cells sh aa=oZ b off sz (bA v) sh aa sh[b]?:=by
 show (match sh[b]? with | some (some cs)=>_ | _=>none)=_
 split
 · rename_i cs h
   rw [h,km]
 · rename_i h
   unfold oZ
   split
   · rename_i cs e;exact absurd e (h cs)
   · rfl
theorem iX {sz:Nat} {v:AV}:exec O (.kr sz) [v] cells sh aa=if (bA v).length=sz∧(bA v).all cZ=true∧(bA v).all (aw sh.length)=true then some ⟨.aT sh.length 0,none,sh++[some (bA v)],aa⟩ else none:=rfl
theorem gq {zero:List PV}:exec O (.gz zero) [] cells sh aa=some ⟨.aT sh.length 0,none,sh++[some (zero.map a_.zeroCell)],aa⟩:=rfl
theorem gW {sz bytes:Nat} {ag:Bool} {zero:List PV} {k k':IntKind} {n n':Int}:exec O (.iw sz bytes ag zero) [.pv (.int k n),.pv (.int k' n')] cells sh aa =
   if n=n'∧0≤n∧n≤9223372036854775807∧n*bytes≤140737488355328∧zero.length=sz then some ⟨.bh sh.length sz n.toNat ag,none,sh++[some ((List.replicate n.toNat (zero.map .pv)).flatten)],aa⟩ else none:=rfl
theorem z_:cV []=false:=rfl
theorem Cz {p:PV} {r:List AV}:cV (.pv p::r)=false:=rfl
theorem Aa {l:List PV} {r:List AV}:cV (.cg l::r)=false:=rfl
theorem Ac {l:List PV} {τ:Nat} {r:List AV}:cV (.own l τ::r)=false:=rfl
theorem xu {b o:Nat} {r:List AV}:cV (.aT b o::r)=false:=rfl
theorem xv {b z n:Nat} {ag:Bool} {r:List AV}:cV (.bh b z n ag::r)=false:=rfl
theorem CA {g:Nat} {c r:List AV}:cV (.fn g c::r)=false:=rfl
theorem xw {r:List AV}:cV (.cz::r)=false:=rfl
theorem xx {s:Nat} {r:List AV}:cV (.bY s::r)=false:=rfl
theorem xy {kvs:List (PV×PV)} {r:List AV}:cV (.cN kvs::r)=true:=rfl
theorem gX:exec O .jN [] cells sh aa=some ⟨.bY sh.length,none,sh++[some [.cN []]],aa⟩:=rfl
def D' (ok:Bool) (z:PV) (sh:Sh) (aa:au):Option (Option PV)→Option Out
 | some r=>some ⟨e_ ok z r,none,sh,aa⟩
 | none=>none
theorem xz {ok:Bool} {z:PV} {r:Option PV}:D' ok z sh aa (some r)=some ⟨e_ ok z r,none,sh,aa⟩:=rfl
theorem o5 {z:PV} {r:Option PV}:e_ true z r=.jg [.pv (r.getD z),.pv (.bool r.isSome)]:=rfl
theorem nv {z:PV} {r:Option PV}:e_ false z r=.pv (r.getD z):=rfl
def Ad (c:CK) (ok:Bool) (z k:PV) (sh:Sh) (aa:au):Option (Option (List AV))→Option Out
 | some (some [.cN kvs])=>D' ok z sh aa (gB c kvs k)
 | _=>none
theorem mI {c:CK} {ok:Bool} {z k:PV} {kvs:List (PV×PV)}:Ad c ok z k sh aa (some (some [.cN kvs]))=D' ok z sh aa (gB c kvs k):=rfl
theorem fQ {c:CK} {ok:Bool} {z k:PV} {s:Nat}:exec O (.gF c ok z) [.bY s,.pv k] cells sh aa=Ad c ok z k sh aa sh[s]?:=by
 show (match sh[s]? with | some (some [.cN kvs])=>(gB c kvs k).map _ | _=>none)=_
 split
 · rename_i kvs h
   rw [h,mI]
   cases gB c kvs k<;>rfl
 · rename_i h
   unfold Ad
   split
   · rename_i kvs e;exact absurd e (h kvs)
   · rfl
def Ea (s:Nat) (sh:Sh) (aa:au):Option (List (PV×PV))→Option Out
 | some kvs=>some ⟨.un,none,sh.set s (some [.cN kvs]),aa⟩
 | none=>none
theorem xA {s:Nat} {kvs:List (PV×PV)}:Ea s sh aa (some kvs)=some ⟨.un,none,sh.set s (some [.cN kvs]),aa⟩:=rfl
def Eb (c:CK) (s:Nat) (k:PV) (sh:Sh) (aa:au):Option (Option (List AV))→Option PV→Option Out
 | some (some [.cN kvs]),some p=>Ea s sh aa (iy c kvs k p)
 | _,_=>none
theorem nW {c:CK} {s:Nat} {k p:PV} {kvs:List (PV×PV)}:Eb c s k sh aa (some (some [.cN kvs])) (some p)=Ea s sh aa (iy c kvs k p):=rfl
theorem iY {c:CK} {k:PV} {s:Nat} {v:AV}:exec O (.lX c) [.bY s,.pv k,v] cells sh aa=Eb c s k sh aa sh[s]? (eF [] v):=by
 show (match sh[s]?,eF [] v with | some (some [.cN kvs]),some p=>(iy c kvs k p).map _ | _,_=>none)=_
 split
 · rename_i kvs p h1 h2
   rw [h1,h2,nW]
   cases iy c kvs k p<;>rfl
 · rename_i h
   unfold Eb
   split
   · rename_i kvs p e1 e2;exact absurd e2 (h kvs p e1)
   · rfl
def Ec (neg:Bool):Option Bool→Option AV
 | some b=>some (.pv (.bool (if neg then !b else b)))
 | none=>none
theorem xB {neg b:Bool}:Ec neg (some b)=some (.pv (.bool (if neg then !b else b))):=rfl
def F3 (cs:List CK) (neg:Bool):Option PV→Option PV→Option AV
 | some (.agg ps),some (.agg qs)=>Ec neg (c_ cs ps qs)
 | _,_=>none
theorem xC {cs:List CK} {neg:Bool} {ps qs:List PV}:F3 cs neg (some (.agg ps)) (some (.agg qs))=Ec neg (c_ cs ps qs):=rfl
def Ed (sh:Sh):Option (AV×au)→Option Out
 | some (v,ts)=>some ⟨v,none,sh,ts⟩
 | none=>none
theorem xD {v:AV} {ts:au}:Ed sh (some (v,ts))=some ⟨v,none,sh,ts⟩:=rfl
theorem gr {sz bytes:Nat} {s x:AV}:exec O (.append sz bytes) [s,x] cells sh aa=Ed sh (bB sz bytes s x aa):=by
 show (bB sz bytes s x aa).map _=_
 cases bB sz bytes s x aa<;>rfl
theorem ju {sz bytes:Nat} {x:AV}:exec O (.clone sz bytes) [x] cells sh aa=Ed sh (bB sz bytes (.cg []) x aa):=by
 show (bB sz bytes (.cg []) x aa).map _=_
 cases bB sz bytes (.cg []) x aa<;>rfl
def wq (sz bytes:Nat) (s:AV) (aa:au):Option (List PV)→Option (AV×au)
 | some xs=>if bj sz xs=true then
   match s with
   | .cg l=>if xs.isEmpty=true then some (.cg l,aa) else if bj sz l=true∧(l.length+xs.length)*bytes≤140737488355328 then
       some (.own (l++xs) aa.length,aa++[(l++xs).length]) else none
   | .own l τ=>if aa[τ]?=some l.length∧bj sz l=true∧(l.length+xs.length)*bytes≤140737488355328 then
       some (.own (l++xs) τ,aa.set τ (l++xs).length) else none
   | _=>none
   else none
 | none=>none
theorem nw {sz bytes:Nat} {s x:AV}:bB sz bytes s x aa=wq sz bytes s aa (ck x):=by
 unfold bB wq
 cases ck x<;>rfl
theorem xE {sz bytes:Nat} {l xs:List PV}:wq sz bytes (.cg l) aa (some xs)=if bj sz xs=true then if xs.isEmpty=true then some (.cg l,aa) else if bj sz l=true∧(l.length+xs.length)*bytes≤140737488355328 then
       some (.own (l++xs) aa.length,aa++[(l++xs).length]) else none else none:=rfl
theorem xF {sz bytes τ:Nat} {l xs:List PV}:wq sz bytes (.own l τ) aa (some xs)=if bj sz xs=true then if aa[τ]?=some l.length∧bj sz l=true∧(l.length+xs.length)*bytes≤140737488355328 then
       some (.own (l++xs) τ,aa.set τ (l++xs).length) else none else none:=rfl
def Ee (aa:au):Option (AV×Sh)→Option Out
 | some (v,sh)=>some ⟨v,none,sh,aa⟩
 | none=>none
theorem xG {v:AV} {sh:Sh}:Ee aa (some (v,sh))=some ⟨v,none,sh,aa⟩:=rfl
def Ae (sz bytes:Nat) (ag:Bool) (s:AV) (sh:Sh) (aa:au):Option (List PV)→Option Out
 | some xs=>if bj sz xs=true then Ee aa (oo sz bytes ag s xs sh aa) else none
 | none=>none
theorem sY {sz bytes:Nat} {ag:Bool} {s:AV} {xs:List PV}:Ae sz bytes ag s sh aa (some xs)=if bj sz xs=true then Ee aa (oo sz bytes ag s xs sh aa) else none:=rfl
theorem gZ {sz bytes:Nat} {ag:Bool} {s x:AV}:exec O (.di sz bytes ag) [s,x] cells sh aa=Ae sz bytes ag s sh aa (ck x):=by
 simp only [exec,Ae]
 cases ck x with
 | none=>rfl
 | some xs=>
   simp only
   split
   · cases oo sz bytes ag s xs sh aa<;>rfl
   · rfl
def Ef (sz bytes:Nat) (ag:Bool) (b z n:Nat) (g:Bool) (xs:List PV) (sh:Sh):Option (Option (List AV))→Option (AV×Sh)
 | some (some cells)=>if z=sz∧g=ag∧cV cells=false∧n*sz≤cells.length∧(n+xs.length)*bytes≤140737488355328 then
       if xs.isEmpty=true then some (.bh b sz n ag,sh) else some (.bh sh.length sz (n+xs.length) ag,sh.set b none++[some (cells.take (n*sz)++(xs.flatMap aK).map .pv)])
     else none
 | _=>none
theorem qQ {sz bytes:Nat} {ag:Bool} {b z n:Nat} {g:Bool} {xs:List PV} {cells:List AV}:Ef sz bytes ag b z n g xs sh (some (some cells))=if z=sz∧g=ag∧cV cells=false∧n*sz≤cells.length∧(n+xs.length)*bytes≤140737488355328 then
       if xs.isEmpty=true then some (.bh b sz n ag,sh) else some (.bh sh.length sz (n+xs.length) ag,sh.set b none++[some (cells.take (n*sz)++(xs.flatMap aK).map .pv)])
     else none:=rfl
theorem Af {sz bytes:Nat} {ag:Bool} {xs:List PV}:oo sz bytes ag (.cg []) xs sh aa=sx sz bytes ag (.cg []) xs sh:=rfl
theorem Ag {sz bytes τ:Nat} {ag:Bool} {xs:List PV}:oo sz bytes ag (.own [] τ) xs sh aa=if aa[τ]?=some 0 then sx sz bytes ag (.own [] τ) xs sh else none:=rfl
theorem CB {sz bytes:Nat} {ag:Bool} {s:AV} {xs:List PV}:sx sz bytes ag s xs sh=if xs.isEmpty=true then some (s,sh) else if xs.length*bytes≤140737488355328 then some (.bh sh.length sz xs.length ag,sh++[some ((xs.flatMap aK).map .pv)]) else none:=rfl
def CC (r:List Nat) (t:Nat) (st:St) (v:AV):Option PV→St
 | some p=>jf r { st with env:=cO st.env t (.pv p),sh:=dj st.sh [v] }
 | none=>jf r (sy v st)
def wt (d:Nat) (cs:List AV) (st:St):Option (List PV)→St
 | some ps=>{ st with mem:=cO st.mem d (ps.map .pv),sh:=dj st.sh [.agg cs] }
 | none=>st
def Ah (d:Nat) (st:St):Option (List AV)→St
 | some cs=>wt d cs st (dF st.sh cs)
 | none=>st
theorem xH {d:Nat} {st:St}:sy (.bt d 0) st=Ah d st (look st.mem d):=by
 simp only [sy]
 cases look st.mem d with
 | none=>rfl
 | some cs=>
   simp only [Ah]
   cases dF st.sh cs<;>rfl
theorem sZ {d:Nat} {st:St} {cs:List AV}:Ah d st (some cs)=wt d cs st (dF st.sh cs):=rfl
theorem s4 {d:Nat} {st:St} {cs:List AV} {ps:List PV}:wt d cs st (some ps)={ st with mem:=cO st.mem d (ps.map .pv),sh:=dj st.sh [.agg cs] }:=rfl
theorem s5 {d:Nat} {st:St} {cs:List AV}:wt d cs st none=st:=rfl
def CD (r:List Nat) (t:Nat) (st:St):Option AV→St
 | some v=>CC r t st v (eF st.sh v)
 | none=>jf r st
theorem Ai {st:St}:jf [] st=st:=rfl
theorem xI {t:Nat} {r:List Nat} {st:St}:jf (t::r) st=CD r t st (look st.env t):=by
 simp only [jf]
 cases look st.env t with
 | none=>rfl
 | some v=>
   simp only [CD]
   cases eF st.sh v<;>rfl
theorem xJ {r:List Nat} {t:Nat} {st:St} {v:AV}:CD r t st (some v)=CC r t st v (eF st.sh v):=rfl
theorem xK {r:List Nat} {t:Nat} {st:St}:CD r t st none=jf r st:=rfl
theorem xL {r:List Nat} {t:Nat} {st:St} {v:AV} {p:PV}:CC r t st v (some p)=jf r { st with env:=cO st.env t (.pv p),sh:=dj st.sh [v] }:=rfl
theorem xM {r:List Nat} {t:Nat} {st:St} {v:AV}:CC r t st v none=jf r (sy v st):=rfl
def F4 (aa:au):Option Sh→Option Out
 | some sh=>some ⟨.jg [],none,sh,aa⟩
 | none=>none
theorem xN {sh:Sh}:F4 aa (some sh)=some ⟨.jg [],none,sh,aa⟩:=rfl
def Eg (sz:Nat) (zero:List PV) (sh:Sh) (b off n:Nat):Option (Option (List AV))→Option Sh
 | some (some cells)=>if cV cells=false∧off+n*sz≤cells.length∧zero.length=sz then some (sh.set b (some (aN cells off (List.replicate n (zero.map .pv)).flatten))) else none
 | _=>none
theorem qR {sz b off n:Nat} {zero:List PV} {cells:List AV}:Eg sz zero sh b off n (some (some cells))=if cV cells=false∧off+n*sz≤cells.length∧zero.length=sz then some (sh.set b (some (aN cells off (List.replicate n (zero.map .pv)).flatten))) else none:=rfl
def mJ (sz:Nat) (sh:Sh) (aa:au) (x:AV):Option (List PV)→Option Out
 | some xs=>Aj aa (l3 sz sh xs x)
 | none=>none
where Aj (aa:au):Option (Nat×Sh)→Option Out
 | some (k,sh')=>some ⟨.pv (.int .i64 (k:Int)),none,sh',aa⟩
 | none=>none
theorem qS {sz:Nat} {x:AV} {xs:List PV}:mJ sz sh aa x (some xs)=mJ.Aj aa (l3 sz sh xs x):=rfl
theorem s6 {k:Nat} {sh':Sh}:mJ.Aj aa (some (k,sh'))=some ⟨.pv (.int .i64 (k:Int)),none,sh',aa⟩:=rfl
theorem gY {sz:Nat} {x y:AV}:exec O (.ij sz) [x,y] cells sh aa=mJ sz sh aa x (ck y):=by
 simp only [exec,mJ]
 cases ck y with
 | none=>rfl
 | some xs=>simp only;cases l3 sz sh xs x<;>rfl
def Fj (sz:Nat) (sh:Sh) (xs:List PV) (b z n:Nat):Option (Option (List AV))→Option (Nat×Sh)
 | some (some cells)=>if z=sz∧bj sz xs=true∧cV cells=false∧n*sz≤cells.length then
       some (min xs.length n,sh.set b (some (aN cells 0 (((xs.take n).flatMap aK).map .pv)))) else none
 | _=>none
theorem s7 {sz b z n:Nat} {xs:List PV} {cells:List AV}:Fj sz sh xs b z n (some (some cells))=if z=sz∧bj sz xs=true∧cV cells=false∧n*sz≤cells.length then
       some (min xs.length n,sh.set b (some (aN cells 0 (((xs.take n).flatMap aK).map .pv)))) else none:=rfl
theorem xO {s:Nat}:AK.key (.ij s)=none:=rfl
def qT (sz bytes:Nat) (sh:Sh) (aa:au) (s e:AV):Option (List PV)→Option Out
 | some xs=>Eh sh aa (pP sz bytes xs s e aa)
 | none=>none
where Eh (sh:Sh) (aa:au):Option PV→Option Out
 | some p=>some ⟨.pv p,none,sh,aa⟩
 | none=>none
theorem s8 {sz bytes:Nat} {s e:AV} {xs:List PV}:qT sz bytes sh aa s e (some xs)=qT.Eh sh aa (pP sz bytes xs s e aa):=rfl
theorem xQ {p:PV}:qT.Eh sh aa (some p)=some ⟨.pv p,none,sh,aa⟩:=rfl
theorem fl {sz bytes:Nat} {s x e:AV}:exec O (.d9 sz bytes) [s,x,e] cells sh aa=qT sz bytes sh aa s e (ck x):=by
 simp only [exec,qT]
 cases ck x with
 | none=>rfl
 | some xs=>simp only;cases pP sz bytes xs s e aa<;>rfl
theorem Ak {sz bytes τ σ:Nat} {xs l m:List PV}:pP sz bytes xs (.own l τ) (.own m σ) aa=if τ=σ∧aa[τ]?=some m.length∧m.length=l.length+xs.length∧bj 1 l=true∧bj 1 xs=true∧sz=1 ∧
     cU (m.drop l.length) xs=true∧xs.isEmpty=false∧m.length*bytes≤140737488355328 then some (.a8 (l++xs)) else none:=rfl
theorem xR:cU [] []=true:=rfl
theorem s9 {a b:List UInt8} {r q:List PV}:cU (.str a::r) (.str b::q)=((a == b) && cU r q):=rfl
theorem qU {s b:Nat}:AK.key (.d9 s b)=none:=rfl
theorem s_ {s:Nat} {z:List PV}:AK.key (.ft s z)=none:=rfl
theorem ta {sz b n:Nat} {ag lo hi:Bool} {rest:List AV}:a_ (.sw sz lo hi) (.bh b sz n ag::rest)=jO sz lo hi (.bh b sz n ag::rest):=rfl
theorem tc {aC ts:au} {a b c:Nat}:bd aC ts (.jn a b c)=(.jn a b c,aC,ts):=rfl
theorem td {live:List Nat} {a b c:Nat}:df live (.jn a b c)=true:=rfl
theorem Al {l:List PV}:ck (.pv (.a8 l))=some l:=rfl
theorem xS {l:List PV}:ck (.cg l)=some l:=rfl
theorem xT {l:List PV} {τ:Nat}:ck (.own l τ)=some l:=rfl
theorem te {sz:Nat}:bj sz []=true:=rfl
theorem qV {sz:Nat} {p:PV} {r:List PV}:bj sz (p::r)=((aK p).length == sz):=rfl
def Ei (sh:Sh) (aa:au):Option (List PV)→Option Out
 | some rs=>some ⟨lM rs,none,sh,aa⟩
 | none=>none
theorem xU {rs:List PV}:Ei sh aa (some rs)=some ⟨lM rs,none,sh,aa⟩:=rfl
def Am (O:dC) (g:Nat):Option (List PV)→Option (List PV)
 | some cd=>O.p g cd
 | none=>none
theorem jE {g:Nat} {cd:List PV}:Am O g (some cd)=O.p g cd:=rfl
theorem tf {g:Nat}:exec O (.aA g) vals cells sh aa=Ei sh aa (Am O g (ca [] vals)):=by
 show (match ca [] vals with | some cd=>_ | none=>none)=_
 split
 · rename_i cd h
   rw [h,jE]
   cases O.p g cd<;>rfl
 · rename_i h;rw [h];rfl
theorem qW {g:Nat}:exec O (.eK g) vals cells sh aa=Ei (dj sh vals) aa (Am O g (ca sh vals)):=by
 show (match ca sh vals with | some cd=>_ | none=>none)=_
 split
 · rename_i cd h
   rw [h,jE]
   cases O.p g cd<;>rfl
 · rename_i h;rw [h];rfl
def Ej (n:Nat) (ts0:au):Option (List AV×Sh×au)→Option Out
 | some (rs,sh',ts)=>some ⟨jP (rs.map (bM n)),none,fu n sh',ts0++ts⟩
 | none=>none
theorem xW {n:Nat} {ts0:au} {rs:List AV} {sh':Sh} {ts:au}:Ej n ts0 (some (rs,sh',ts))=some ⟨jP (rs.map (bM n)),none,fu n sh',ts0++ts⟩:=rfl
def wu (O:dC) (g n:Nat) (q:List AV×Sh×au×au):Option Out:=Ej n q.2.2.1 (O.i g q.1 q.2.1 q.2.2.2)
theorem Ao {g n:Nat} {a:List AV} {s:Sh} {o t:au}:wu O g n (a,s,o,t)=Ej n o (O.i g a s t):=rfl
def qX (O:dC) (g:Nat) (args:List AV) (sh:Sh) (aa:au):Option Out:=
 if args.all bp=true then wu O g aa.length (cm aa args sh) else none
theorem Ap {g:Nat} {args:List AV}:qX O g args sh aa=if args.all bp=true then wu O g aa.length (cm aa args sh) else none:=rfl
theorem lC {g:Nat} {own:List Nat}:(da O g own vals sh aa).map (fun (v,sh',ts)=>(⟨v,none,sh',ts⟩:Out))=qX O g (dv own 0 vals) sh aa:=by
 unfold da qX wu
 split
 · cases O.i g (cm aa (dv own 0 vals) sh).1 (cm aa (dv own 0 vals) sh).2.1 (cm aa (dv own 0 vals) sh).2.2.2 with
   | none=>rfl
   | some q=>obtain ⟨a,b,c⟩:=q;rfl
 · rfl
theorem tg {g:Nat} {own:List Nat}:exec O (.az g own) vals cells sh aa=qX O g (dv own 0 vals) sh aa:=lC
def Gl (sh:Sh):Option Out→Option Out
 | some o=>if iv o.sh sh=true then some ⟨o.val,none,sh,o.aa⟩ else none
 | none=>none
theorem Aq {v:AV} {c:Option (List AV)} {s:Sh} {t:au}:Gl sh (some ⟨v,c,s,t⟩)=if iv s sh=true then some ⟨v,none,sh,t⟩ else none:=rfl
theorem qY {g:Nat} {cap:List AV}:exec O .b_ (.fn g cap::vals) cells sh aa=Gl sh (qX O g (dv [] 0 (vals++cap)) sh aa):=by
 rw [←lC]
 simp only [exec]
 cases da O g [] (vals++cap) sh aa with
 | none=>rfl
 | some q=>obtain ⟨v,s,t⟩:=q;rfl
theorem th:AK.key .b_=none:=rfl
mutual
theorem nX:∀p:PV,je p p=true
 | .bool _=>by simp [je]
 | .int _ _=>by simp [je]
 | .str _=>by simp [je]
 | .agg l=>by simp only [je];exact jF l
 | .a8 l=>by simp only [je];exact jF l
theorem jF:∀l:List PV,jQ l l=true
 | []=>rfl
 | p::r=>by simp only [jQ,nX p,jF r,Bool.and_self]
end
theorem Ek {p:PV}:EP (.pv p) (.pv p)=true:=nX p
theorem Au:nc [] []=true:=rfl
theorem xX {a b:AV} {r q:List AV}:nc (a::r) (b::q)=(EP a b && nc r q):=rfl
theorem Av:iv [] []=true:=rfl
theorem xY {r q:Sh}:iv (none::r) (none::q)=iv r q:=rfl
theorem xZ {a b:List AV} {r q:Sh}:iv (some a::r) (some b::q)=(nc a b && iv r q):=rfl
def b2sO:Option (List UInt8)→Option AV
 | some s=>some (.pv (.str s))
 | none=>none
theorem b2sO_some {s:List UInt8}:b2sO (some s)=some (.pv (.str s)):=rfl
def Fk (sh:Sh) (aa:au):Option (List AV×Sh×au)→Option Out
 | some (rs,[],ts)=>some ⟨jP (rs.map (bM aa.length)),none,sh,aa++ts⟩
 | _=>none
theorem x4 {rs:List AV} {ts:au}:Fk sh aa (some (rs,[],ts))=some ⟨jP (rs.map (bM aa.length)),none,sh,aa++ts⟩:=rfl
def Aw (O:dC) (g:Nat):Option (List PV)→Option (List AV×Sh×au)
 | some cd=>O.i g (cd.map .pv) [] []
 | none=>none
theorem lD {g:Nat} {cd:List PV}:Aw O g (some cd)=O.i g (cd.map .pv) [] []:=rfl
theorem ti {g:Nat}:exec O (.gG g) vals cells sh aa=Fk sh aa (Aw O g (ca [] vals)):=by
 show (match ca [] vals with | some cd=>_ | none=>none)=_
 split
 · rename_i cd h
   rw [h,lD]
   cases O.i g (cd.map .pv) [] [] with
   | none=>rfl
   | some q=>
     obtain ⟨a,b,c⟩:=q
     cases b<;>rfl
 · rename_i h;rw [h];rfl
theorem tj {own:List Nat} {i:Nat}:dv own i []=[]:=rfl
theorem qZ {own:List Nat} {i:Nat} {v:AV} {r:List AV}:dv own i (v::r)=(if own.contains i then v else il v)::dv own (i+1) r:=rfl
theorem Ax {p:PV}:il (.pv p)=.pv p:=rfl
theorem x5 {l:List PV}:il (.cg l)=.pv (.a8 l):=rfl
theorem x6 {l:List PV} {τ:Nat}:il (.own l τ)=.pv (.a8 l):=rfl
theorem tl {b o:Nat}:il (.aT b o)=.aT b o:=rfl
theorem Ay {g:Nat} {cap:List AV}:il (.fn g cap)=.fn g cap:=rfl
theorem tm {b s n:Nat} {ag:Bool}:il (.bh b s n ag)=.bh b s n ag:=rfl
theorem tn:il .cz=.cz:=rfl
theorem tq {s:Nat}:il (.bY s)=(.bY s):=rfl
def Em (cs:List AV):Option (List PV)→AV
 | some ps=>.pv (.agg ps)
 | none=>.agg cs
theorem q7 {cs:List AV} {ps:List PV}:Em cs (some ps)=.pv (.agg ps):=rfl
def nY {α:Type}:Option α→Option (List α)→Option (List α)
 | some x,some l=>some (x::l)
 | _,_=>none
theorem tr {α:Type} {x:α} {l:List α}:nY (some x) (some l)=some (x::l):=rfl
theorem tt {env:List (Nat×AV)}:dc env []=some []:=rfl
theorem q8 {env:List (Nat×AV)} {x:dD} {r:List dD}:dc env (x::r)=nY (eJ env x) (dc env r):=by
 simp only [dc]
 cases eJ env x<;>cases dc env r<;>rfl
theorem CE {env:List (Nat×AV)} {n:Nat}:eJ env (.t n)=look env n:=rfl
theorem CF {env:List (Nat×AV)} {v:AV}:eJ env (.c v)=some v:=rfl
theorem Az:ix []=some []:=rfl
theorem tu:ca sh []=some []:=rfl
theorem q9 {v:AV} {r:List AV}:ca sh (v::r)=nY (eF sh v) (ca sh r):=by
 simp only [ca]
 cases eF sh v<;>cases ca sh r<;>rfl
theorem x7:dF sh []=some []:=rfl
theorem tv {v:AV} {r:List AV}:dF sh (v::r)=if aG v=true then nY (cq sh v) (dF sh r) else none:=by
 simp only [dF]
 split
 · cases cq sh v<;>cases dF sh r<;>rfl
 · rfl
theorem CG {p:PV}:jd (.pv p)=some p:=rfl
theorem AA {l:List PV}:jd (.cg l)=some (.a8 l):=rfl
theorem AB {l:List PV} {τ:Nat}:jd (.own l τ)=some (.a8 l):=rfl
theorem Eo {p:PV}:eF sh (.pv p)=some p:=rfl
theorem CH {l:List PV}:eF sh (.cg l)=some (.a8 l):=rfl
theorem CI {l:List PV} {τ:Nat}:eF sh (.own l τ)=some (.a8 l):=rfl
def Fl:Option (List PV)→Option PV
 | some ps=>some (.agg ps)
 | none=>none
theorem x8 {ps:List PV}:Fl (some ps)=some (.agg ps):=rfl
theorem CJ {cs:List AV}:eF sh (.agg cs)=Fl (dF sh cs):=by
 simp only [eF]
 cases dF sh cs<;>rfl
theorem tw {p:PV}:cq sh (.pv p)=some p:=rfl
theorem q_ {l:List PV}:cq sh (.cg l)=some (.a8 l):=rfl
theorem q' {l:List PV} {τ:Nat}:cq sh (.own l τ)=some (.a8 l):=rfl
theorem o6 {b o:Nat}:cq sh (.aT b o)=none:=rfl
theorem tz {g:Nat} {c:List AV}:cq sh (.fn g c)=none:=rfl
theorem o7:cq sh .cz=none:=rfl
theorem o8 {s:Nat}:cq sh (.bY s)=none:=rfl
theorem AD {b o:Nat}:eF sh (.aT b o)=none:=rfl
theorem Ep {g:Nat} {c:List AV}:eF sh (.fn g c)=none:=rfl
theorem AE:eF sh .cz=none:=rfl
theorem AF {s:Nat}:eF sh (.bY s)=none:=rfl
def Er (sz n:Nat) (ag:Bool):Option (Option (List AV))→Option PV
 | some (some cells)=>if cells.length=n*sz then ((ix cells).bind (gA sz ag n)).map .a8
   else if cV cells=false∧n*sz≤cells.length then ((ix (cells.take (n*sz))).bind (gA sz ag n)).map .a8 else none
 | _=>none
theorem o9 {b sz n:Nat} {ag:Bool}:cq sh (.bh b sz n ag)=Er sz n ag sh[b]?:=rfl
theorem AG {b sz n:Nat} {ag:Bool}:eF sh (.bh b sz n ag)=Er sz n ag sh[b]?:=rfl
theorem x9 {sz n:Nat} {ag:Bool} {cells:List AV}:Er sz n ag (some (some cells))=if cells.length=n*sz then ((ix cells).bind (gA sz ag n)).map .a8 else if cV cells=false∧n*sz≤cells.length then ((ix (cells.take (n*sz))).bind (gA sz ag n)).map .a8 else none:=rfl
theorem AH {r:PV}:lM [r]=.pv r:=rfl
theorem AI:lM []=.jg []:=rfl
theorem AJ {a b:PV} {r:List PV}:lM (a::b::r)=.jg (.pv a::.pv b::r.map .pv):=rfl
theorem AL {r:AV}:jP [r]=r:=rfl
theorem AM:jP []=.jg []:=rfl
theorem AN {a b:AV} {r:List AV}:jP (a::b::r)=.jg (a::b::r):=rfl
theorem AO {xs:List AV}:cm aa xs sh=((aV aa [] xs).1,(bQ (aV aa [] xs).2.1 (aV aa [] xs).2.2 sh).1,(bQ (aV aa [] xs).2.1 (aV aa [] xs).2.2 sh).2.1,(bQ (aV aa [] xs).2.1 (aV aa [] xs).2.2 sh).2.2):=rfl
theorem x_ {aC ts:au}:aV aC ts []=([],aC,ts):=rfl
theorem mK {aC ts:au} {v:AV} {r:List AV}:aV aC ts (v::r)=((bd aC ts v).1::(aV (bd aC ts v).2.1 (bd aC ts v).2.2 r).1,(aV (bd aC ts v).2.1 (bd aC ts v).2.2 r).2):=rfl
theorem ya {aC ts:au}:bQ aC ts []=([],aC,ts):=rfl
theorem mL {aC ts:au} {r:Sh}:bQ aC ts (none::r)=(none::(bQ aC ts r).1,(bQ aC ts r).2):=rfl
theorem mM {aC ts:au} {cs:List AV} {r:Sh}:bQ aC ts (some cs::r)=(some (aV aC ts cs).1::(bQ (aV aC ts cs).2.1 (aV aC ts cs).2.2 r).1,(bQ (aV aC ts cs).2.1 (aV aC ts cs).2.2 r).2):=rfl
theorem yb {aC ts:au}:cE aC ts []=([],aC,ts):=rfl
theorem tC {aC ts:au} {t:Nat} {v:AV} {r:List (Nat×AV)}:cE aC ts ((t,v)::r)=((t,(bd aC ts v).1)::(cE (bd aC ts v).2.1 (bd aC ts v).2.2 r).1,(cE (bd aC ts v).2.1 (bd aC ts v).2.2 r).2):=rfl
theorem yc {aC ts:au}:dI aC ts []=([],aC,ts):=rfl
theorem tD {aC ts:au} {t:Nat} {v:List AV} {r:List (Nat×List AV)}:dI aC ts ((t,v)::r)=((t,(aV aC ts v).1)::(dI (aV aC ts v).2.1 (aV aC ts v).2.2 r).1,(dI (aV aC ts v).2.1 (aV aC ts v).2.2 r).2):=rfl
theorem yd {aC ts:au} {l:List PV} {τ:Nat}:bd aC ts (.own l τ)=if aC[τ]?=some l.length then (.own l ts.length,aC.set τ (l.length+1),ts++[l.length]) else (.pv (.a8 l),aC,ts):=rfl
theorem ye {aC ts:au} {l:List PV}:bd aC ts (.cg l)=(.own l ts.length,aC,ts++[l.length]):=rfl
theorem AR {aC ts:au}:bd aC ts .un=(.un,aC,ts):=rfl
theorem rb {aC ts:au} {p:PV}:bd aC ts (.pv p)=(.pv p,aC,ts):=rfl
def tE (aC ts:au) (p:List AV):Bool→AV×au×au
 | true=>(.agg p,aC,ts)
 | false=>(.agg (bT aC ts p).1,(bT aC ts p).2.1,(bT aC ts p).2.2)
theorem yf {aC ts:au} {p:List AV}:bd aC ts (.agg p)=tE aC ts p (a7.dn p):=by
 simp only [bd]
 cases a7.dn p<;>rfl
theorem re {aC ts:au} {p:List AV}:tE aC ts p true=(.agg p,aC,ts):=rfl
theorem o_ {aC ts:au} {p:List AV}:tE aC ts p false=(.agg (bT aC ts p).1,(bT aC ts p).2.1,(bT aC ts p).2.2):=rfl
theorem tF {aC ts:au}:bT aC ts []=([],aC,ts):=rfl
theorem rf {aC ts:au} {v:AV} {r:List AV}:bT aC ts (v::r)=((cM aC ts v).1::(bT (cM aC ts v).2.1 (cM aC ts v).2.2 r).1,(bT (cM aC ts v).2.1 (cM aC ts v).2.2 r).2):=rfl
theorem yg {aC ts:au} {l:List PV} {τ:Nat}:cM aC ts (.own l τ)=if aC[τ]?=some l.length then (.own l ts.length,aC.set τ (l.length+1),ts++[l.length]) else (.pv (.a8 l),aC,ts):=rfl
theorem AS {aC ts:au} {p:PV}:cM aC ts (.pv p)=(.pv p,aC,ts):=rfl
theorem yh {aC ts:au} {p:List PV}:cM aC ts (.cg p)=(.cg p,aC,ts):=rfl
theorem tG {aC ts:au} {a b:Nat}:cM aC ts (.aT a b)=(.aT a b,aC,ts):=rfl
theorem tH {aC ts:au} {a b c:Nat} {d:Bool}:cM aC ts (.bh a b c d)=(.bh a b c d,aC,ts):=rfl
theorem AT {aC ts:au} {a:Nat} {c:List AV}:cM aC ts (.fn a c)=(.fn a c,aC,ts):=rfl
theorem tI {aC ts:au}:cM aC ts .cz=(.cz,aC,ts):=rfl
theorem tJ {s:Nat} {aC ts:au}:cM aC ts (.bY s)=((.bY s),aC,ts):=rfl
theorem yi {aC ts:au} {p:List AV}:bd aC ts (.jg p)=(.jg p,aC,ts):=rfl
theorem tK {aC ts:au} {a b:Nat}:bd aC ts (.bt a b)=(.bt a b,aC,ts):=rfl
theorem tL {aC ts:au} {a b:Nat}:bd aC ts (.aT a b)=(.aT a b,aC,ts):=rfl
theorem tM {aC ts:au} {a:List PV}:bd aC ts (.cC a)=(.cC a,aC,ts):=rfl
theorem tN {aC ts:au} {a b c:Nat} {d:Bool}:bd aC ts (.bh a b c d)=(.bh a b c d,aC,ts):=rfl
theorem AU {aC ts:au} {a:Nat} {c:List AV}:bd aC ts (.fn a c)=(.fn a c,aC,ts):=rfl
theorem tO {aC ts:au}:bd aC ts .cz=(.cz,aC,ts):=rfl
theorem tP {s:Nat} {aC ts:au}:bd aC ts (.bY s)=((.bY s),aC,ts):=rfl
theorem tQ {s:List (PV×PV)} {aC ts:au}:bd aC ts (.cN s)=((.cN s),aC,ts):=rfl
theorem CL {env:List (Nat×AV)} {mem:List (Nat×List AV)}:norm ⟨env,mem,sh,aa⟩ =
   { env:=(cE aa [] env).1,
     mem:=(dI (cE aa [] env).2.1 (cE aa [] env).2.2 mem).1,
     sh:=(bQ (dI (cE aa [] env).2.1 (cE aa [] env).2.2 mem).2.1 (dI (cE aa [] env).2.1 (cE aa [] env).2.2 mem).2.2 sh).1,
     aa:=(bQ (dI (cE aa [] env).2.1 (cE aa [] env).2.2 mem).2.1 (dI (cE aa [] env).2.1 (cE aa [] env).2.2 mem).2.2 sh).2.2 }:=rfl
theorem rh {live:List Nat} {env:List (Nat×AV)} {mem:List (Nat×List AV)}:restrict live ⟨env,mem,sh,aa⟩=⟨bm live env live,bn mem live,sh,aa⟩:=rfl
def AW (live:List Nat) (t:Nat) (rest:List (Nat×AV)):Option AV→List (Nat×AV)
 | some v=>if df live v=true then (t,v)::rest else rest
 | none=>rest
theorem tR {live:List Nat} {t:Nat} {rest:List (Nat×AV)} {v:AV}:AW live t rest (some v)=if df live v=true then (t,v)::rest else rest:=rfl
theorem tS {live:List Nat} {t:Nat} {rest:List (Nat×AV)}:AW live t rest none=rest:=rfl
theorem lP {live:List Nat} {env:List (Nat×AV)}:bm live env []=[]:=rfl
theorem kH {live:List Nat} {env:List (Nat×AV)} {t:Nat} {r:List Nat}:bm live env (t::r)=AW live t (bm live env r) (look env t):=by
 show (match look env t with | some v=>_ | none=>_)=_
 cases look env t<;>rfl
def AX (t:Nat) (rest:List (Nat×List AV)):Option (List AV)→List (Nat×List AV)
 | some v=>(t,v)::rest
 | none=>rest
theorem tT {t:Nat} {rest:List (Nat×List AV)} {v:List AV}:AX t rest (some v)=(t,v)::rest:=rfl
theorem tU {t:Nat} {rest:List (Nat×List AV)}:AX t rest none=rest:=rfl
theorem lQ {mem:List (Nat×List AV)}:bn mem []=[]:=rfl
theorem kI {mem:List (Nat×List AV)} {t:Nat} {r:List Nat}:bn mem (t::r)=AX t (bn mem r) (look mem t):=by
 show (match look mem t with | some v=>_ | none=>_)=_
 cases look mem t<;>rfl
theorem tV {live:List Nat} {d o:Nat}:df live (.bt d o)=live.contains d:=rfl
theorem yj {live:List Nat} {l:List PV} {τ:Nat}:df live (.own l τ)=true:=rfl
theorem AY {live:List Nat}:df live .un=true:=rfl
theorem AZ {live:List Nat} {p:PV}:df live (.pv p)=true:=rfl
theorem yk {live:List Nat} {l:List PV}:df live (.cg l)=true:=rfl
theorem yl {live:List Nat} {l:List AV}:df live (.agg l)=ef l:=rfl
theorem tW:ef []=true:=rfl
theorem ri {v:AV} {r:List AV}:ef (v::r)=(eH v && ef r):=rfl
theorem ym {l:List PV} {τ:Nat}:eH (.own l τ)=true:=rfl
theorem A0 {p:PV}:eH (.pv p)=true:=rfl
theorem yn {l:List PV}:eH (.cg l)=true:=rfl
theorem tX {a b:Nat}:eH (.aT a b)=true:=rfl
theorem tY {a b c:Nat} {d:Bool}:eH (.bh a b c d)=true:=rfl
theorem A1 {a:Nat} {c:List AV}:eH (.fn a c)=a7.dn c:=rfl
theorem yo {c:List AV}:eH (.agg c)=a7.dn c:=rfl
theorem tZ:eH .cz=true:=rfl
theorem A2:eH .un=true:=rfl
theorem t4 {s:Nat}:eH (.bY s)=true:=rfl
theorem yp {live:List Nat} {l:List AV}:df live (.jg l)=a7.dn l:=rfl
theorem t5 {live:List Nat} {a b:Nat}:df live (.aT a b)=true:=rfl
theorem t6 {live:List Nat} {a:List PV}:df live (.cC a)=true:=rfl
theorem t7 {live:List Nat} {a b c:Nat} {d:Bool}:df live (.bh a b c d)=true:=rfl
theorem A3 {live:List Nat} {a:Nat} {c:List AV}:df live (.fn a c)=a7.dn c:=rfl
theorem t8 {live:List Nat}:df live .cz=true:=rfl
theorem t9 {s:Nat} {live:List Nat}:df live (.bY s)=true:=rfl
theorem look_nil {α:Type} {t:Nat}:look ([]:List (Nat×α)) t=none:=rfl
theorem yq {α:Type} {k t:Nat} {v:α} {r:List (Nat×α)}:look ((k,v)::r) t=if k=t then some v else look r t:=rfl
theorem A4 {α:Type} {t:Nat} {v:α}:cO ([]:List (Nat×α)) t v=[(t,v)]:=rfl
theorem yt {α:Type} {k t:Nat} {v u:α} {r:List (Nat×α)}:cO ((k,v)::r) t u=if k=t then (k,u)::r else (k,v)::cO r t u:=rfl
theorem yu {env:List (Nat×AV)} {d:Nat} {v:AV}:ep env (some d) v=cO env d v:=rfl
theorem yv {env:List (Nat×AV)} {v:AV}:ep env none v=env:=rfl
theorem yw {mem:List (Nat×List AV)} {k:Nat} {cs:List AV}:dZ mem (some k) (some cs)=cO mem k cs:=rfl
theorem dV {mem:List (Nat×List AV)} {o:Option (List AV)}:dZ mem none o=mem:=rfl
theorem t_ {mem:List (Nat×List AV)} {k:Nat}:dZ mem (some k) none=mem:=rfl
theorem pc {i:Nat}:bF i []=[]:=rfl
theorem nz {i:Nat} {v:AV} {r:List AV}:bF i (v::r)=(i,v)::bF (i+1) r:=rfl
theorem ua {cs:List AV}:aL (.agg cs)=cs:=rfl
theorem rj {cs:List PV}:aL (.pv (.agg cs))=cs.map .pv:=rfl
theorem rk {b:Bool}:aL (.pv (.bool b))=[.pv (.bool b)]:=rfl
theorem ub {k:IntKind} {n:Int}:aL (.pv (.int k n))=[.pv (.int k n)]:=rfl
theorem uc {s:List UInt8}:aL (.pv (.str s))=[.pv (.str s)]:=rfl
theorem ud {l:List PV}:aL (.pv (.a8 l))=[.pv (.a8 l)]:=rfl
theorem ue {l:List PV}:aL (.cg l)=[.cg l]:=rfl
theorem uf {l:List PV} {τ:Nat}:aL (.own l τ)=[.own l τ]:=rfl
theorem rm {a b:Nat}:aL (.aT a b)=[.aT a b]:=rfl
theorem rn {a b c:Nat} {d:Bool}:aL (.bh a b c d)=[.bh a b c d]:=rfl
theorem yx {a:Nat} {c:List AV}:aL (.fn a c)=[.fn a c]:=rfl
theorem rp:aL .cz=[.cz]:=rfl
theorem rq {s:Nat}:aL (.bY s)=[(.bY s)]:=rfl
theorem ug {cs:List PV}:aK (.agg cs)=cs:=rfl
theorem ru {b:Bool}:aK (.bool b)=[.bool b]:=rfl
theorem uh {k:IntKind} {n:Int}:aK (.int k n)=[.int k n]:=rfl
theorem ui {s:List UInt8}:aK (.str s)=[.str s]:=rfl
theorem uj {l:List PV}:aK (.a8 l)=[.a8 l]:=rfl
theorem uk {b:Bool}:aG (.pv (.bool b))=true:=rfl
theorem yy {k:IntKind} {n:Int}:aG (.pv (.int k n))=true:=rfl
theorem yz {s:List UInt8}:aG (.pv (.str s))=true:=rfl
theorem yA {l:List PV}:aG (.pv (.a8 l))=true:=rfl
theorem yB {l:List PV}:aG (.cg l)=true:=rfl
theorem yC {l:List PV} {τ:Nat}:aG (.own l τ)=true:=rfl
theorem um {a b:Nat}:aG (.aT a b)=true:=rfl
theorem uo {a b c:Nat} {d:Bool}:aG (.bh a b c d)=true:=rfl
theorem A5 {a:Nat} {c:List AV}:aG (.fn a c)=ba.eG c:=rfl
theorem uq:aG .cz=true:=rfl
theorem ur {s:Nat}:aG (.bY s)=true:=rfl
theorem uu {s:List (PV×PV)}:aG (.cN s)=true:=rfl
theorem A6 {v:AV}:cZ v=aG v:=rfl
theorem A7 {p:PV}:ba (.pv p)=true:=rfl
theorem yD {l:List PV}:ba (.cg l)=true:=rfl
theorem uv {a b:Nat}:ba (.aT a b)=true:=rfl
theorem uw {a b c:Nat} {d:Bool}:ba (.bh a b c d)=true:=rfl
theorem ux:ba .cz=true:=rfl
theorem uy {s:Nat}:ba (.bY s)=true:=rfl
theorem A8 {a:Nat} {c:List AV}:ba (.fn a c)=ba.eG c:=rfl
theorem yE {c:List AV}:ba (.agg c)=ba.eG c:=rfl
theorem yF:ba.eG []=true:=rfl
theorem uz {v:AV} {r:List AV}:ba.eG (v::r)=(ba v && ba.eG r):=rfl
theorem yG {l:List PV} {τ:Nat}:bp (.own l τ)=true:=rfl
theorem A9 {p:PV}:bp (.pv p)=true:=rfl
theorem yH {l:List PV}:bp (.cg l)=true:=rfl
theorem uA {a b:Nat}:bp (.aT a b)=true:=rfl
theorem uB {a b c:Nat} {d:Bool}:bp (.bh a b c d)=true:=rfl
theorem uC:bp .cz=true:=rfl
theorem uD {s:Nat}:bp (.bY s)=true:=rfl
theorem A_ {a:Nat} {c:List AV}:bp (.fn a c)=ba.eG c:=rfl
theorem yI {c:List AV}:bp (.agg c)=dG c:=rfl
theorem uE:dG []=true:=rfl
theorem rz {v:AV} {r:List AV}:dG (v::r)=(eI v && dG r):=rfl
theorem yJ {l:List PV} {τ:Nat}:eI (.own l τ)=true:=rfl
theorem A' {p:PV}:eI (.pv p)=true:=rfl
theorem yK {l:List PV}:eI (.cg l)=true:=rfl
theorem uF {a b:Nat}:eI (.aT a b)=true:=rfl
theorem uG {a b c:Nat} {d:Bool}:eI (.bh a b c d)=true:=rfl
theorem uH:eI .cz=true:=rfl
theorem uI {s:Nat}:eI (.bY s)=true:=rfl
theorem Ba {a:Nat} {c:List AV}:eI (.fn a c)=ba.eG c:=rfl
theorem yL {c:List AV}:eI (.agg c)=ba.eG c:=rfl
theorem yM:a7.dn []=true:=rfl
theorem uJ {v:AV} {r:List AV}:a7.dn (v::r)=(a7 v && a7.dn r):=rfl
theorem Bb {p:PV}:a7 (.pv p)=true:=rfl
theorem yN {l:List PV}:a7 (.cg l)=true:=rfl
theorem yO {l:List PV} {τ:Nat}:a7 (.own l τ)=false:=rfl
theorem uK {a b:Nat}:a7 (.aT a b)=true:=rfl
theorem uL {a b c:Nat} {d:Bool}:a7 (.bh a b c d)=true:=rfl
theorem Bc {a:Nat} {c:List AV}:a7 (.fn a c)=a7.dn c:=rfl
theorem uM:a7 .cz=true:=rfl
theorem uN {s:Nat}:a7 (.bY s)=true:=rfl
theorem Bd:a7 .un=true:=rfl
theorem uO {a b:Nat}:a7 (.bt a b)=false:=rfl
theorem yP {c:List AV}:a7 (.agg c)=a7.dn c:=rfl
theorem yQ {n:Nat} {p:PV}:aw n (.pv p)=true:=rfl
theorem uP {n:Nat} {l:List PV}:aw n (.cg l)=true:=rfl
theorem uQ {n:Nat} {l:List PV} {τ:Nat}:aw n (.own l τ)=true:=rfl
theorem rA {n:Nat}:aw n .cz=true:=rfl
theorem rB {s:Nat} {n:Nat}:aw n (.bY s)=decide (s<n):=rfl
theorem rC {s:List (PV×PV)} {n:Nat}:aw n (.cN s)=true:=rfl
theorem rD {n a b:Nat}:aw n (.aT a b)=decide (a<n):=rfl
theorem rE {n a b c:Nat} {d:Bool}:aw n (.bh a b c d)=decide (a<n):=rfl
theorem yR {n a:Nat} {c:List AV}:aw n (.fn a c)=aw.bR n c:=rfl
theorem uR {n:Nat} {c:List AV}:aw n (.agg c)=aw.bR n c:=rfl
theorem rF {n:Nat}:aw.bR n []=true:=rfl
theorem pd {n:Nat} {v:AV} {r:List AV}:aw.bR n (v::r)=(aw n v && aw.bR n r):=rfl
theorem uS {n τ:Nat} {l:List PV}:bM n (.own l τ)=.own l (τ+n):=rfl
theorem yS {n:Nat} {p:PV}:bM n (.pv p)=.pv p:=rfl
theorem uT {n:Nat} {p:List PV}:bM n (.cg p)=.cg p:=rfl
def pg (n:Nat) (p:List AV):Bool→AV
 | true=>.agg p
 | false=>.agg (p.map (dH n))
theorem uU {n:Nat} {p:List AV}:bM n (.agg p)=pg n p (a7.dn p):=by
 simp only [bM]
 cases a7.dn p<;>rfl
theorem ph {n:Nat} {p:List AV}:pg n p true=.agg p:=rfl
theorem nA {n:Nat} {p:List AV}:pg n p false=.agg (p.map (dH n)):=rfl
theorem uV {n τ:Nat} {l:List PV}:dH n (.own l τ)=.own l (τ+n):=rfl
theorem yT {n:Nat} {p:PV}:dH n (.pv p)=.pv p:=rfl
theorem uW {n:Nat} {p:List PV}:dH n (.cg p)=.cg p:=rfl
theorem rG {n a b:Nat}:dH n (.aT a b)=.aT a b:=rfl
theorem yU {n a:Nat} {b:List AV}:dH n (.fn a b)=.fn a b:=rfl
theorem rH {n a b c:Nat} {d:Bool}:dH n (.bh a b c d)=.bh a b c d:=rfl
theorem rI {n:Nat}:dH n .cz=.cz:=rfl
theorem rJ {s:Nat} {n:Nat}:dH n (.bY s)=(.bY s):=rfl
theorem rK {n a b:Nat}:bM n (.aT a b)=.aT a b:=rfl
theorem yV {n a:Nat} {b:List AV}:bM n (.fn a b)=.fn a b:=rfl
theorem rL {n a b c:Nat} {d:Bool}:bM n (.bh a b c d)=.bh a b c d:=rfl
theorem rM {n:Nat}:bM n .cz=.cz:=rfl
theorem rN {s:Nat} {n:Nat}:bM n (.bY s)=(.bY s):=rfl
theorem rO {s:List (PV×PV)} {n:Nat}:bM n (.cN s)=(.cN s):=rfl
theorem uX {n:Nat}:fu n []=[]:=rfl
theorem rP {n:Nat} {r:Sh}:fu n (none::r)=none::fu n r:=rfl
theorem rQ {n:Nat} {cs:List AV} {r:Sh}:fu n (some cs::r)=some (cs.map (bM n))::fu n r:=rfl
theorem nB {b:Bool}:a_.zeroCell (.bool b)=.pv (.bool b):=rfl
theorem pj {k:IntKind} {n:Int}:a_.zeroCell (.int k n)=.pv (.int k n):=rfl
theorem pk {s:List UInt8}:a_.zeroCell (.str s)=.pv (.str s):=rfl
theorem pn:a_.zeroCell (.a8 [])=.cg []:=rfl
theorem rR {l:List PV}:bA (.cg l)=[.cg l]:=rfl
theorem rS {l:List PV} {τ:Nat}:bA (.own l τ)=[.own l τ]:=rfl
theorem uY {p:PV}:bA (.pv p)=aL (.pv p):=rfl
theorem po {a b:Nat}:bA (.aT a b)=[.aT a b]:=rfl
theorem pq {a b c:Nat} {d:Bool}:bA (.bh a b c d)=[.bh a b c d]:=rfl
theorem uZ {a:Nat} {c:List AV}:bA (.fn a c)=[.fn a c]:=rfl
theorem pr:bA .cz=[.cz]:=rfl
theorem pw {s:Nat}:bA (.bY s)=[(.bY s)]:=rfl
def wv (cs:List AV):Option (List PV)→List AV
 | some ps=>ps.map .pv
 | none=>cs
theorem rT {cs:List AV}:bA (.agg cs)=wv cs (dF [] cs):=by
 show (match eF [] (.agg cs) with | some p=>aL (.pv p) | none=>aL (.agg cs))=_
 have h:eF [] (.agg cs)=(dF [] cs).map .agg:=rfl
 unfold wv
 rw [h]
 cases dF [] cs<;>rfl
theorem u_ {cs:List AV} {ps:List PV}:wv cs (some ps)=ps.map .pv:=rfl
theorem va {cs:List AV}:wv cs none=cs:=rfl
theorem Fm {o:zM}:AK.key (.v o)=none:=rfl
theorem yW {k o s:Nat} {a:Bool}:AK.key (.cD k o s a)=some k:=rfl
theorem vb {k o s:Nat}:AK.key (.ee k o s)=some k:=rfl
theorem yX {k:Nat} {z:List PV}:AK.key (.alloc k z)=some k:=rfl
theorem CM {k s:Nat}:AK.key (.box k s)=some k:=rfl
theorem yY {s:Nat} {a:Bool}:AK.key (.aJ s a)=none:=rfl
theorem vc {s:Nat}:AK.key (.dE s)=none:=rfl
theorem Be {s:Nat}:AK.key (.kr s)=none:=rfl
theorem vd {s:List PV}:AK.key (.gz s)=none:=rfl
theorem yZ {s b:Nat} {a:Bool} {z:List PV}:AK.key (.iw s b a z)=none:=rfl
theorem rU {s b:Nat} {ag:Bool}:AK.key (.di s b ag)=none:=rfl
theorem vf {s b:Nat}:AK.key (.append s b)=none:=rfl
theorem y1 {g:Nat}:AK.key (.aA g)=none:=rfl
theorem vg {g:Nat}:AK.key (.eK g)=none:=rfl
theorem y2 {g:Nat}:AK.key (.gG g)=none:=rfl
theorem y3 {g:Nat} {o:List Nat}:AK.key (.az g o)=none:=rfl
theorem y4:AK.jN.key=none:=rfl
theorem y5 {c:CK} {ok:Bool} {z:PV}:(AK.gF c ok z).key=none:=rfl
theorem Bf {c:CK}:(AK.lX c).key=none:=rfl
theorem y6 {sz bytes:Nat}:(AK.clone sz bytes).key=none:=rfl
theorem y7:AK.key .gf=none:=rfl
theorem bind_none {f:Nat→Option (List AV)}:(none:Option Nat).bind f=none:=rfl
theorem bind_some {f:Nat→Option (List AV)} {n:Nat}:(some n).bind f=f n:=rfl
theorem vh {sz off:Nat} {cs:List AV}:bD true sz cs off=if off+sz≤cs.length then some (.agg ((cs.drop off).take sz)) else none:=rfl
theorem rV {off:Nat} {cs:List AV}:bD false 1 cs off=if off+1≤cs.length then cs[off]? else none:=rfl
theorem rW {sz:Nat} {cs:List PV}:bS true sz cs=if sz≤cs.length then some (.pv (.agg (cs.take sz))) else none:=rfl
theorem pz {c:PV} {cs:List PV}:bS false 1 (c::cs)=some (.pv c):=by simp [bS]
theorem dP {cs vs:List AV} {off:Nat}:aN cs off vs=cs.take off++vs++cs.drop (off+vs.length):=rfl
theorem Es {x:AV}:a_ .mv [x]=some x:=rfl
theorem Bg {c:Bool} {a b:AV}:a_ .pick [.pv (.bool c),a,b]=if c=true then some a else some b:=by cases c<;>rfl
theorem CN {i:Nat} {vs:List AV}:a_ (.ext i) [.jg vs]=vs[i]?:=rfl
theorem y8 {off sz:Nat} {ag:Bool} {cs:List AV}:a_ (.field off sz ag) [.agg cs]=bD ag sz cs off:=rfl
theorem vi {off sz:Nat} {ag:Bool} {cs:List PV}:a_ (.field off sz ag) [.pv (.agg cs)]=bS ag sz (cs.drop off):=rfl
theorem vj {off d o:Nat}:a_ (.bE off) [.bt d o]=some (.bt d (o+off)):=rfl
theorem vk {off d o:Nat}:a_ (.bE off) [.aT d o]=some (.aT d (o+off)):=rfl
theorem vl {off:Nat} {cs:List PV}:a_ (.bE off) [.cC cs]=some (.cC (cs.drop off)):=rfl
def vm (sz:Nat):Option PV→Option AV
 | some el=>if (aK el).length=sz then some (.cC (aK el)) else none
 | none=>none
theorem rX {sz:Nat} {el:PV}:vm sz (some el)=if (aK el).length=sz then some (.cC (aK el)) else none:=rfl
theorem y9 {sz:Nat} {l:List PV} {k:IntKind} {i:Int}:a_ (.aO sz) [.pv (.a8 l),.pv (.int k i)]=if i<0 then none else vm sz l[i.toNat]?:=by
 show (if i<0 then none else _)=_
 split
 · rfl
 · show (match l[i.toNat]? with | some el=>_ | none=>_)=_
   cases l[i.toNat]?<;>rfl
theorem vn {sz:Nat} {l:List PV} {k:IntKind} {i:Int}:a_ (.aO sz) [.cg l,.pv (.int k i)]=if i<0 then none else vm sz l[i.toNat]?:=by
 show (if i<0 then none else _)=_
 split
 · rfl
 · show (match l[i.toNat]? with | some el=>_ | none=>_)=_
   cases l[i.toNat]?<;>rfl
theorem vp {sz b sz' n:Nat} {ag:Bool} {k:IntKind} {i:Int}:a_ (.aO sz) [.bh b sz' n ag,.pv (.int k i)]=if i<0 then none else if sz=sz'∧i.toNat<n then some (.aT b (i.toNat*sz)) else none:=rfl
def Fo:Option UInt8→Option AV
 | some b=>some (.pv (.int .u8 b.toNat))
 | none=>none
theorem vq {b:UInt8}:Fo (some b)=some (.pv (.int .u8 b.toNat)):=rfl
def Fp:Option (List AV)→Option AV
 | some cs=>some (.agg cs)
 | none=>none
theorem y_ {cs:List AV}:Fp (some cs)=some (.agg cs):=rfl
theorem za {zero:List PV} {places:List (Nat×Nat)}:a_ (.build zero places) vals=Fp (ik (zero.map a_.zeroCell) places vals):=by
 show (ik _ _ _).map _=_
 cases ik (zero.map a_.zeroCell) places vals<;>rfl
theorem zb {cs:List AV}:ik cs [] []=some cs:=rfl
theorem vr {cs:List AV} {off sz:Nat} {ps:List (Nat×Nat)} {v:AV} {vs:List AV}:ik cs ((off,sz)::ps) (v::vs) =
   if (aL v).length=sz∧off+sz≤cs.length∧(aL v).all aG=true then ik (aN cs off (aL v)) ps vs else none:=rfl
def Fq (sz:Nat):Option (List PV)→Option AV
 | some els=>if els.all (fun e=>(aK e).length == sz) then some (.cg els) else none
 | none=>none
theorem zc {sz:Nat} {els:List PV}:Fq sz (some els)=if els.all (fun e=>(aK e).length == sz) then some (.cg els) else none:=rfl
theorem vt {sz:Nat}:a_ (.bf sz) vals=Fq sz (ca [] vals):=by
 show (ca [] vals).bind _=_
 cases ca [] vals<;>rfl
theorem zd {sz:Nat} {ag:Bool} {cs:List PV}:a_ (.aR sz ag) [.cC cs]=bS ag sz cs:=rfl
theorem CO {l:List PV}:a_ .len [.pv (.a8 l)]=some (.pv (.int .i64 l.length)):=rfl
theorem Bh {l:List PV}:a_ .len [.cg l]=some (.pv (.int .i64 l.length)):=rfl
theorem Bi {l:List PV} {τ:Nat}:a_ .len [.own l τ]=some (.pv (.int .i64 l.length)):=rfl
theorem Bj {a b n:Nat} {d:Bool}:a_ .len [.bh a b n d]=some (.pv (.int .i64 n)):=rfl
theorem Bk {s:List UInt8}:a_ .gP [.pv (.str s)]=some (.pv (.int .i64 s.length)):=rfl
theorem Bl {a b:Nat}:a_ .aI [.bt a b]=some (.bt a b):=rfl
theorem Bm {a b:Nat}:a_ .aI [.aT a b]=some (.aT a b):=rfl
theorem Bn {a:List PV}:a_ .aI [.cC a]=some (.cC a):=rfl
theorem Bo {a:Nat} {b:List AV}:a_ .aI [.fn a b]=some (.fn a b):=rfl
theorem Et {k k':IntKind} {x y:Int}:a_ .mn [.pv (.int k x),.pv (.int k' y)]=if k=k' then some (.pv (.int k (if y<x then y else x))) else none:=rfl
theorem Eu {k k':IntKind} {x y:Int}:a_ .mx [.pv (.int k x),.pv (.int k' y)]=if k=k' then some (.pv (.int k (if y > x then y else x))) else none:=rfl
theorem Bp {g:Nat}:a_ (.Ch g) vals=some (.fn g vals):=by cases vals<;>rfl
theorem Bq {k k':IntKind} {n:Int}:a_ (.conv k) [.pv (.int k' n)]=some (.pv (.int k (k.wrap n))):=rfl
theorem CP {b:Bool}:a_ (.un .not) [.pv (.bool b)]=some (.pv (.bool !b)):=rfl
theorem CQ {k:IntKind} {n:Int}:a_ (.un .neg) [.pv (.int k n)]=some (.pv (.int k (k.wrap (0-n)))):=rfl
theorem CR {a b:Bool}:a_ (.beq false) [.pv (.bool a),.pv (.bool b)]=some (.pv (.bool (a == b))):=rfl
theorem CS {a b:Bool}:a_ (.beq true) [.pv (.bool a),.pv (.bool b)]=some (.pv (.bool !(a == b))):=rfl
theorem CT {k:IntKind} {a b:Int}:a_ (.bin .add) [.pv (.int k a),.pv (.int k b)]=some (.pv (.int k (k.wrap (a+b)))):=by simp [a_,ct]
theorem CU {k:IntKind} {a b:Int}:a_ (.bin .sub) [.pv (.int k a),.pv (.int k b)]=some (.pv (.int k (k.wrap (a-b)))):=by simp [a_,ct]
theorem CV {k:IntKind} {a b:Int}:a_ (.bin .quo) [.pv (.int k a),.pv (.int k b)]=if b=0 then none else some (.pv (.int k (k.wrap (a.tdiv b)))):=by simp [a_,ct]
theorem CW {k:IntKind} {a b:Int}:a_ (.bin .rem) [.pv (.int k a),.pv (.int k b)]=if b=0 then none else some (.pv (.int k (a.tmod b))):=by simp [a_,ct]
theorem CX {k:IntKind} {a b:Int}:a_ (.bin .eql) [.pv (.int k a),.pv (.int k b)]=some (.pv (.bool (a == b))):=by simp [a_,ct]
theorem CY {k:IntKind} {a b:Int}:a_ (.bin .neq) [.pv (.int k a),.pv (.int k b)]=some (.pv (.bool (a != b))):=by simp [a_,ct]
theorem CZ {k:IntKind} {a b:Int}:a_ (.bin .lss) [.pv (.int k a),.pv (.int k b)]=some (.pv (.bool (decide (a<b)))):=by simp [a_,ct]
theorem C0 {k:IntKind} {a b:Int}:a_ (.bin .leq) [.pv (.int k a),.pv (.int k b)]=some (.pv (.bool (decide (a≤b)))):=by simp [a_,ct]
theorem C1 {k:IntKind} {a b:Int}:a_ (.bin .gtr) [.pv (.int k a),.pv (.int k b)]=some (.pv (.bool (decide (a > b)))):=by simp [a_,ct]
theorem C2 {k:IntKind} {a b:Int}:a_ (.bin .geq) [.pv (.int k a),.pv (.int k b)]=some (.pv (.bool (decide (a≥b)))):=by simp [a_,ct]
theorem C3 {k:IntKind} {a b:Int}:a_ (.bin .and) [.pv (.int k a),.pv (.int k b)]=some (.pv (.int k (k.wrap (BitVec.ofInt k.bits a &&& BitVec.ofInt k.bits b).toNat))):=by simp [a_,ct]
theorem C4 {k k':IntKind} {a b:Int}:a_ (.bin .shr) [.pv (.int k a),.pv (.int k' b)]=if b<0 then none else some (.pv (.int k (a.fdiv (2 ^ (min b.toNat k.bits))))):=by simp [a_,ct]
theorem bo {a b:List UInt8}:a_ (.bin .add) [.pv (.str a),.pv (.str b)]=if a.length+b.length≤9223372036854775807 then some (.pv (.str (a++b))) else none:=rfl
theorem Br {a b:List UInt8}:a_ (.bin .eql) [.pv (.str a),.pv (.str b)]=some (.pv (.bool (a == b))):=rfl
theorem Bs {a b:List UInt8}:a_ (.bin .neq) [.pv (.str a),.pv (.str b)]=some (.pv (.bool (!(a == b)))):=rfl
theorem Bt {a b:List UInt8}:a_ (.bin .lss) [.pv (.str a),.pv (.str b)]=some (.pv (.bool (ct.eo a b))):=rfl
theorem Bu {a b:List UInt8}:a_ (.bin .gtr) [.pv (.str a),.pv (.str b)]=some (.pv (.bool (!(ct.eo a b || a == b)))):=rfl
theorem ze {sz:Nat} {lo hi mx:Bool} {x:AV} {rest:List AV}:a_ (.slice false sz lo hi mx) (x::rest)=gg false sz lo hi mx (x::rest):=rfl
theorem vu {sz:Nat} {lo hi mx:Bool} {x:AV} {rest:List AV}:a_ (.slice true sz lo hi mx) (x::rest)=gg true sz lo hi mx (x::rest):=rfl
def jG (aF ks:Bool) (sh0 sh:Sh) (aa:au):Option (List AV)→Option (List AV×Sh×au)
 | some vs=>if (bN aF ks sh vs).all bp=true then
     some ((cm aa (bN aF ks sh vs) (if (bN aF ks sh vs).all (aw sh0.length)=true then (dz aF ks sh vs).take sh0.length else dz aF ks sh vs)).1,
       (cm aa (bN aF ks sh vs) (if (bN aF ks sh vs).all (aw sh0.length)=true then (dz aF ks sh vs).take sh0.length else dz aF ks sh vs)).2.1,
       (cm aa (bN aF ks sh vs) (if (bN aF ks sh vs).all (aw sh0.length)=true then (dz aF ks sh vs).take sh0.length else dz aF ks sh vs)).2.2.2) else none
 | none=>none
theorem rY {aF ks:Bool} {sh0:Sh} {vs:List AV}:jG aF ks sh0 sh aa (some vs)=if (bN aF ks sh vs).all bp=true then
     some ((cm aa (bN aF ks sh vs) (if (bN aF ks sh vs).all (aw sh0.length)=true then (dz aF ks sh vs).take sh0.length else dz aF ks sh vs)).1,
       (cm aa (bN aF ks sh vs) (if (bN aF ks sh vs).all (aw sh0.length)=true then (dz aF ks sh vs).take sh0.length else dz aF ks sh vs)).2.1,
       (cm aa (bN aF ks sh vs) (if (bN aF ks sh vs).all (aw sh0.length)=true then (dz aF ks sh vs).take sh0.length else dz aF ks sh vs)).2.2.2) else none:=rfl
def fin (aF ks:Bool) (rs:List lY) (sh0:Sh):Option (aH×St)→Option (List AV×Sh×au)
 | some (.ret,st)=>jG aF ks sh0 st.sh st.aa (de st rs)
 | some (.normal,st)=>jG aF ks sh0 st.sh st.aa (de st rs)
 | _=>none
theorem C5 {aF ks:Bool} {rs:List lY} {sh0:Sh} {st:St}:fin aF ks rs sh0 (some (.ret,st))=jG aF ks sh0 st.sh st.aa (de st rs):=rfl
theorem vv {aF ks:Bool} {rs:List lY} {sh0:Sh} {st:St}:fin aF ks rs sh0 (some (.normal,st))=jG aF ks sh0 st.sh st.aa (de st rs):=rfl
theorem C6 {aF ks:Bool} {rs:List lY} {sh0:Sh} {c:Prop} [Decidable c] {x y:Option (aH×St)}:fin aF ks rs sh0 (if c then x else y)=if c then fin aF ks rs sh0 x else fin aF ks rs sh0 y:=by split<;>rfl
theorem nZ {aF:Bool} {af:aB} {sh0:Sh} {r:Option (aH×St)}:finish aF af sh0 r=fin aF af.ks af.results sh0 r:=by
 cases r with
 | none=>rfl
 | some q=>
   obtain ⟨e,st⟩:=q
   cases e with
   | ret=>simp only [finish,fin];cases de st af.results<;>simp [jG]
   | normal=>simp only [finish,fin];cases de st af.results<;>simp [jG]
   | exit id=>simp [finish,fin]
theorem vw {st:St}:de st []=some []:=rfl
theorem rZ {st:St} {r:lY} {rs:List lY}:de st (r::rs)=nY (kN st r) (de st rs):=by
 simp only [de]
 cases kN st r<;>cases de st rs<;>rfl
theorem C7 {st:St} {n:Nat}:kN st (.t n)=look st.env n:=rfl
def ja (key sz:Nat) (ag:Bool) (mem:List (Nat×List AV)) (sh:Sh):Option AV→Option AV
 | some (.bt d 0)=>pA key d sz ag (look mem key)
 | some (.aT s 0)=>mH ag sz 0 sh[s]?
 | _=>none
where pA (key d sz:Nat) (ag:Bool):Option (List AV)→Option AV
 | some cs=>if d=key then bD ag sz cs 0 else none
 | none=>none
theorem C8 {st:St} {key sz:Nat} {ag:Bool}:kN st (.c key sz ag)=ja key sz ag st.mem st.sh (look st.env key):=by
 simp only [kN]
 unfold ja
 split
 · rename_i h;rw [h];rfl
 · rename_i h;rw [h];rfl
 · rename_i h1 h2
   split
   · rename_i d e;exact absurd e (h1 d)
   · rename_i s e;exact absurd e (h2 s)
   · rfl
theorem pB {key sz d:Nat} {ag:Bool} {mem:List (Nat×List AV)}:ja key sz ag mem sh (some (.bt d 0))=ja.pA key d sz ag (look mem key):=rfl
theorem pC {key sz d:Nat} {ag:Bool} {cs:List AV}:ja.pA key d sz ag (some cs)=if d=key then bD ag sz cs 0 else none:=rfl
theorem r5 {key sz s:Nat} {ag:Bool} {mem:List (Nat×List AV)}:ja key sz ag mem sh (some (.aT s 0))=mH ag sz 0 sh[s]?:=rfl
theorem pD {vs:List AV} {ks:Bool}:bN false ks sh vs=vs.map (l4 sh):=rfl
theorem r6 {vs:List AV}:bN true false sh vs=vs.map (ku sh):=rfl
theorem zg {vs:List AV}:bN true true sh vs=vs:=rfl
theorem r7 {vs:List AV} {ks:Bool}:dz false ks sh vs=dj sh vs:=rfl
theorem vz {vs:List AV}:dz true false sh vs=dj sh vs:=rfl
theorem Bv {vs:List AV}:dz true true sh vs=sh:=rfl
def Bw (v:AV):Option PV→AV
 | some p=>.pv p
 | none=>v
theorem zh {v:AV} {p:PV}:Bw v (some p)=.pv p:=rfl
theorem zi {v:AV}:Bw v none=v:=rfl
theorem Bx {v:AV}:l4 sh v=Bw v (eF sh v):=rfl
theorem By {l:List PV}:ku sh (.cg l)=.cg l:=rfl
theorem Bz {l:List PV} {τ:Nat}:ku sh (.own l τ)=.own l τ:=rfl
theorem BA {cs:List AV}:ku sh (.agg cs)=.agg (cs.map (jo sh)):=rfl
theorem C9 {p:PV}:ku sh (.pv p)=.pv p:=rfl
theorem zj {a b:Nat}:ku sh (.aT a b)=.aT a b:=rfl
theorem C_ {a:Nat} {b:List AV}:ku sh (.fn a b)=.fn a b:=rfl
theorem zk:ku sh .cz=.cz:=rfl
theorem zm {s:Nat}:ku sh (.bY s)=(.bY s):=rfl
theorem zn {a b c:Nat} {d:Bool}:ku sh (.bh a b c d)=Bw (.bh a b c d) (eF sh (.bh a b c d)):=rfl
theorem BB {l:List PV}:jo sh (.cg l)=.cg l:=rfl
theorem BC {l:List PV} {τ:Nat}:jo sh (.own l τ)=.pv (.a8 l):=rfl
theorem zo {b:Bool}:jo sh (.pv (.bool b))=.pv (.bool b):=rfl
theorem BD {k:IntKind} {n:Int}:jo sh (.pv (.int k n))=.pv (.int k n):=rfl
theorem BF {s:List UInt8}:jo sh (.pv (.str s))=.pv (.str s):=rfl
theorem BG {l:List PV}:jo sh (.pv (.a8 l))=.pv (.a8 l):=rfl
theorem zp {a b:Nat}:jo sh (.aT a b)=.aT a b:=rfl
theorem zq:jo sh .cz=.cz:=rfl
theorem zs {s:Nat}:jo sh (.bY s)=(.bY s):=rfl
theorem zt {a b c:Nat} {d:Bool}:jo sh (.bh a b c d)=Bw (.bh a b c d) (eF sh (.bh a b c d)):=rfl
theorem vA {vs:List AV}:dj sh vs=kill sh (vs.flatMap dX):=rfl
theorem BH:kill sh []=sh:=rfl
theorem zu {b:Nat} {l:List Nat}:kill sh (b::l)=kill (sh.set b none) l:=rfl
theorem zw {a b c:Nat} {d:Bool}:dX (.bh a b c d)=[a]:=rfl
theorem C' {p:PV}:dX (.pv p)=[]:=rfl
theorem BI {l:List PV} {τ:Nat}:dX (.own l τ)=[]:=rfl
theorem BK {l:List PV}:dX (.cg l)=[]:=rfl
theorem zx {a b:Nat}:dX (.aT a b)=[]:=rfl
theorem Da {a:Nat} {b:List AV}:dX (.fn a b)=[]:=rfl
theorem zy:dX .cz=[]:=rfl
theorem zz {s:Nat}:dX (.bY s)=[]:=rfl
def jk:AV→List Nat
 | .bh b _ _ _=>[b]
 | _=>[]
theorem BL {cs:List AV}:dX (.agg cs)=cs.flatMap jk:=by
 show cs.flatMap _=cs.flatMap jk
 congr 1
theorem vB {a b c:Nat} {d:Bool}:jk (.bh a b c d)=[a]:=rfl
theorem BM {p:PV}:jk (.pv p)=[]:=rfl
theorem zA {l:List PV} {τ:Nat}:jk (.own l τ)=[]:=rfl
theorem zB {l:List PV}:jk (.cg l)=[]:=rfl
theorem vC {a b:Nat}:jk (.aT a b)=[]:=rfl
theorem BN {a:Nat} {b:List AV}:jk (.fn a b)=[]:=rfl
theorem vD:jk .cz=[]:=rfl
theorem vE {s:Nat}:jk (.bY s)=[]:=rfl
theorem vF:d0 []=some []:=rfl
theorem r9 {p:PV} {r:List AV}:d0 (.pv p::r)=nY (some p) (d0 r):=by
 simp only [d0]
 cases d0 r<;>rfl
def jb:Option (List AV×Sh×au)→Option (List PV)
 | some (rs,_,_)=>d0 rs
 | none=>none
theorem pE {rs:List AV} {t:au}:jb (some (rs,sh,t))=d0 rs:=rfl
theorem r_ {c:Prop} [Decidable c] {x y:Option (List AV×Sh×au)}:jb (if c then x else y)=if c then jb x else jb y:=by split<;>rfl
theorem aD {g:Nat} {af:aB} {x:List PV} (hg:AP g=some af) (h1:x.length=af.nparams) (h2:af.nparams≤af.ntmps) (hp:af.lL=none:=by rfl) :
   (aQ AP).p g x=jb (fin false af.ks af.results [] (cl AP af.body ⟨bF 0 (x.map .pv),[],[],[]⟩)):=by
 rw [DG hg hp h1 (by omega)]
 unfold jj jb
 rw [nZ]
 cases fin false af.ks af.results [] (cl AP af.body ⟨bF 0 (x.map .pv),[],[],[]⟩)<;>rfl
theorem aZ {g:Nat} {af:aB} {x:List AV} {ts:au} (hg:AP g=some af) (h2:x.length≤af.ntmps) :
   (aQ AP).i g x sh ts=fin true af.ks af.results sh (cl AP af.body ⟨bF 0 x,[],sh,ts⟩):=by
 rw [DH hg h2,←nZ]
 rfl
end
attribute [simp] xg qK xh qL sS oU xi sT xj oV xk sU xl xm sV oX sW z7 Cx Fi Cy z8 xp xq qN sX xt D_ eP eX fM iG qO lB qP km gp iX gq gW xD gr nw xE xF Al xS xT te qV xU jE tf qW xW Ao Ap tg tj qZ Ax x5 x6 tl Ay tm tn q7 tr tt q8 CE CF Az tu q9 x7 tv CG AA AB Eo CH CI x8 CJ tw q_ q' o6 tz o7 AD Ep AE o9 AG x9 AH AI AJ AL AM AN AO x_ mK ya mL mM yb tC yc tD yd ye AR rb yf yi tK tL tM tN AU tO CL rh tR tS lP kH tT tU lQ kI tV yj AY AZ yk yl yp t5 t6 t7 A3 t8 look_nil yq A4 yt yu yv yw dV t_ pc nz ua rj rk ub uc ud ue uf rm rn yx rp ug ru uh ui uj uk yy yz yA yB yC um uo A5 uq A6 A7 yD uv uw ux A8 yE yF uz yG A9 yH uA uB uC A_ yI yM uJ Bb yN yO uK uL Bc uM Bd uO yP yQ uP uQ rA rD rE yR uR rF pd uS yS uT uU rK yV rL rM uX rP rQ nB pj pk pn rR rS uY po pq uZ pr rT u_ va Fm yW vb yX CM yY vc Be vd yZ vf y1 vg y3 y7 th Aq qY Ek Au xX Av xY xZ b2sO_some bind_none bind_some vh rV rW pz dP Es Bg CN y8 vi vj vk vl rX y9 vn vp vq y_ za zb vr zc vt zd CO Bh Bi Bj Bk Bl Bm Bn Bo Et Eu Bp Bq CP CQ CR CS CT CU CV CW CX CY CZ C0 C1 C2 C3 C4 bo Br Bs Bt Bu ze vu rY C5 vv C6 vw rZ C7 C8 pB pC r5 pD r6 zh zi Bx By Bz BA C9 zj C_ zk zn BB BC zo BD BF BG zp zq zt vA BH zu zw C' BI BK zx Da zy BL vB BM zA zB vC BN vD vF r9 pE r_ tq o8 AF tP tQ t9 rq ur uu uy uD uN rB rC rN rO pw zm zs zz vE z_ Cz Aa Ac xu xv CA xw xx xy gX fQ iY ju xz o5 nv mI xA nW y4 y5 Bf y6 xB xC x4 lD ti re o_ tF rf yg AS yh tG tH AT tI tJ tW ri ym A0 yn tX tY A1 yo tZ A2 t4 uE rz yJ A' yK uF uG uH uI Ba yL ph nA uV yT uW rG yU rH rI rJ zg r7 vz Bv y2 xG sY gZ qQ Af Ag CB Ai xI xJ xK xL xM xH sZ s4 s5 rU xN qR s_ qS s6 gY s7 xO s8 xQ fl Ak xR s9 qU ta tc td D7 Ct Cu D5 z4 List.getElem?_cons_zero
theorem bH {n:Int} (h1:-9223372036854775808≤n) (h2:n≤9223372036854775807):IntKind.i64.wrap n=n:=by
 simp [IntKind.wrap,IntKind.bits,IntKind.signed]
 omega
end Go.Ab.Ev
