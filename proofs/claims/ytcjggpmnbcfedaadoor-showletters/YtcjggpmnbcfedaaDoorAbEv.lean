import Derived.Test.YtcjggpmnbcfedaaDoorAbLim
/-
  Rules for running slim code by the simplifier: each is an equation on constructors.
-/
set_option linter.unusedVariables false
set_option linter.unusedSimpArgs false
set_option linter.unnecessarySimpa false
set_option maxRecDepth 100000
set_option maxHeartbeats 8000000
namespace Go.Ab.Ev
section
variable {AP:Nat→Option aK} {O:cZ}
noncomputable def branch (AP:Nat→Option aK) (o:Option AV) (a b:aR) (st:St):Option (aE×St):=
 match o with
 | some (.pv (.bool t))=>if t=true then cl AP a st else cl AP b st
 | _=>none
theorem uJ {c:c_} {a b:aR} {st:St}:cl AP (.cond c a b) st=branch AP (dZ st.env c) a b st:=by
 unfold branch
 split
 · rename_i t h
   rw [zn h]
 · rename_i h
   unfold cl
   refine lR fun k=>?_
   simp only [bB]
theorem pU {t:Bool} {a b:aR} {st:St}:branch AP (some (.pv (.bool t))) a b st=if t=true then cl AP a st else cl AP b st:=rfl
def xi (live:List Nat):Option St→Option (aE×St)
 | some st=>some (.normal,restrict live st)
 | none=>none
theorem uK {ops:List bN} {live:List Nat} {st:St}:cl AP (.iL ops live) st=xi live (aJ (bQ AP) ops st):=by
 rw [AR]
 cases aJ (bQ AP) ops st<;>rfl
theorem pV {live:List Nat} {st:St}:xi live (some st)=some (.normal,restrict live st):=rfl
theorem nX {f:St→Option (aE×St)} {st:St}:after f (some (.normal,st))=f st:=rfl
theorem uL {f:St→Option (aE×St)} {st:St}:after f (some (.ret,st))=some (.ret,st):=rfl
theorem rB {f:St→Option (aE×St)} {st:St} {id:Nat}:after f (some (.exit id,st))=some (.exit id,st):=rfl
theorem nY {id:Nat} {st:St}:leave id (some (.normal,st))=some (.normal,st):=rfl
theorem uM {id:Nat} {st:St}:leave id (some (.ret,st))=some (.ret,st):=rfl
theorem rC {id id':Nat} {st:St}:leave id (some (.exit id',st))=if id'=id then some (.normal,st) else some (.exit id',st):=rfl
def nZ (O:cZ) (l:List bN):Option St→Option St
 | some st=>aJ O l st
 | none=>none
theorem uN {st:St}:aJ O [] st=some st:=rfl
theorem gK {o:bN} {l:List bN} {st:St}:aJ O (o::l) st=nZ O l (cr O o st):=by
 simp only [aJ]
 cases cr O o st<;>rfl
theorem rD {d:Option Nat} {args:List c_} {op:AK} {l:List bN} {st:St}:aJ O (⟨d,none,args,op⟩::l) st=nZ O l (cr O ⟨d,none,args,op⟩ st):=gK
theorem n_ {l:List bN} {st:St}:nZ O l (some st)=aJ O l st:=rfl
def xj (d k:Option Nat) (env:List (Nat×AV)) (mem:List (Nat×List AV)):Option Out→Option St
 | some out=>some { env:=dq env d out.val,mem:=cM mem k out.cells,sh:=out.sh,aa:=out.aa }
 | none=>none
def xk (O:cZ) (op:AK) (vals:Option (List AV)) (cells:Option (List AV)) (sh:Sh) (aa:al):Option Out:=
 match vals with
 | some vals=>exec O op vals cells sh aa
 | none=>none
theorem rE {d:Option Nat} {args:List c_} {op:AK} {env:List (Nat×AV)} {mem:List (Nat×List AV)} {sh:Sh} {aa:al} :
   cr O ⟨d,none,args,op⟩ ⟨env,mem,sh,aa⟩=xj d op.key env mem (xk O op (cB env args) (op.key.bind (look mem)) sh aa):=by
 simp only [cr,dm]
 cases cB env args with
 | none=>rfl
 | some vals=>
   dsimp only [xk]
   cases exec O op vals (op.key.bind (look mem)) sh aa<;>rfl
def lV (t:Nat) (b:Bool) (o:bN):bN:=
 match o.guard with
 | some (t',b')=>if t'=t then (if b'=b then { o with guard:=none } else ⟨o.dst,none,[.c .un],.v .mv⟩) else o
 | none=>o
def y5 (t:Nat):List bN→Bool
 | []=>true
 | o::l=>(o.dst != some t) && y5 t l
theorem iI {α:Type} {t t':Nat} {v:α}:∀{l:List (Nat×α)},look (bV l t v) t'=if t'=t then some v else look l t'
 | []=>by
   simp only [bV,look]
   by_cases h:t'=t
   · subst h;simp
   · rw [if_neg (fun e=>h e.symm),if_neg h]
 | (k,u)::r=>by
   simp only [bV]
   by_cases hk:k=t
   · subst hk
     simp only [if_true,look]
     by_cases h:t'=k
     · subst h;simp
     · rw [if_neg (fun e=>h e.symm),if_neg h,if_neg (fun e=>h e.symm)]
   · rw [if_neg hk]
     simp only [look,iI (l:=r)]
     by_cases h:k=t'
     · subst h;simp [hk]
     · rw [if_neg h,if_neg h]
theorem jT {α:Type} {t:Nat} {v:α}:∀{l:List (Nat×α)},look l t=some v→bV l t v=l
 | [],h=>by simp [look] at h
 | (k,u)::r,h=>by
   simp only [look] at h
   simp only [bV]
   split at h
   · rename_i e;cases h;rw [if_pos e]
   · rename_i e;rw [if_neg e,jT h]
theorem uO {o:bN} {st st':St} {t:Nat} {v:AV} (hd:(o.dst != some t)=true) (h:look st.env t=some v) (e:cr O o st=some st'):look st'.env t=some v:=by
 have key:∀x,look (dq st.env o.dst x) t=some v:=by
   intro x
   cases hdd:o.dst with
   | none=>exact h
   | some d=>
     rw [hdd] at hd
     simp only [dq,iI]
     rw [if_neg (by intro e;subst e;simp at hd)]
     exact h
 simp only [cr] at e
 split at e
 · cases e
 · cases e;exact key _
 · split at e
   · cases e
   · split at e
     · cases e
     · cases e;exact key _
theorem uP {o:bN} {st:St} {t:Nat} {b:Bool} (h:look st.env t=some (.pv (.bool b))):cr O o st=cr O (lV t b o) st:=by
 obtain ⟨d,g,args,op⟩:=o
 cases g with
 | none=>rfl
 | some p=>
   obtain ⟨t',b'⟩:=p
   simp only [lV]
   by_cases ht:t'=t
   · subst ht
     rw [if_pos rfl]
     by_cases hb:b'=b
     · subst hb
       rw [if_pos rfl]
       simp only [cr,dm,h,beq_self_eq_true]
     · rw [if_neg hb]
       have hb':(b == b')=false:=by simpa using fun e=>hb e.symm
       simp only [cr,dm,h,hb']
       obtain ⟨env,mem,sh,aa⟩:=st
       rfl
   · rw [if_neg ht]
theorem i4 {t:Nat} {b:Bool}:∀{l:List bN} {st:St},y5 t l=true→look st.env t=some (.pv (.bool b))→aJ O l st=aJ O (l.map (lV t b)) st
 | [],_,_,_=>rfl
 | o::l,st,hn,h=>by
   simp only [y5,Bool.and_eq_true] at hn
   rw [List.map_cons,gK,gK,←uP h]
   cases e:cr O o st with
   | none=>rfl
   | some st'=>exact i4 hn.2 (uO hn.1 h e)
theorem pW {d:Option Nat} {t:Nat} {b:Bool} {args:List c_} {op:AK} {l:List bN} {env:List (Nat×AV)} {mem:List (Nat×List AV)} {sh:Sh} {aa:al} {c:Bool} (h:look env t=some (.pv (.bool c))) (hn:y5 t (⟨d,some (t,b),args,op⟩::l)=true) :
   aJ O (⟨d,some (t,b),args,op⟩::l) ⟨env,mem,sh,aa⟩ =
     if c=true then aJ O ((⟨d,some (t,b),args,op⟩::l).map (lV t true)) ⟨bV env t (.pv (.bool true)),mem,sh,aa⟩
     else aJ O ((⟨d,some (t,b),args,op⟩::l).map (lV t false)) ⟨bV env t (.pv (.bool false)),mem,sh,aa⟩:=by
 cases c with
 | true=>rw [if_pos rfl,jT h];exact i4 hn h
 | false=>rw [if_neg (by simp),jT h];exact i4 hn h
theorem oe {d:Option Nat} {t:Nat} {b:Bool} {args:List c_} {op:AK} {l:List bN} {env:List (Nat×AV)} {mem:List (Nat×List AV)} {sh:Sh} {aa:al} (h:look env t=some .un) :
   aJ O (⟨d,some (t,b),args,op⟩::l) ⟨env,mem,sh,aa⟩=aJ O l ⟨dq env d .un,mem,sh,aa⟩:=by
 rw [gK]
 simp only [cr,dm,h]
 rfl
noncomputable def gd (O:cZ) (t:Nat) (ops:List bN) (d:Option Nat) (l:List bN) (env:List (Nat×AV)) (mem:List (Nat×List AV)) (sh:Sh) (aa:al):Option AV→Option St
 | some (.pv (.bool c))=>if y5 t ops=true then (if c=true then aJ O (ops.map (lV t true)) ⟨bV env t (.pv (.bool true)),mem,sh,aa⟩
     else aJ O (ops.map (lV t false)) ⟨bV env t (.pv (.bool false)),mem,sh,aa⟩) else aJ O ops ⟨env,mem,sh,aa⟩
 | some .un=>aJ O l ⟨dq env d .un,mem,sh,aa⟩
 | _=>aJ O ops ⟨env,mem,sh,aa⟩
theorem xl {d:Option Nat} {t:Nat} {b:Bool} {args:List c_} {op:AK} {l:List bN} {env:List (Nat×AV)} {mem:List (Nat×List AV)} {sh:Sh} {aa:al} :
   aJ O (⟨d,some (t,b),args,op⟩::l) ⟨env,mem,sh,aa⟩=gd O t (⟨d,some (t,b),args,op⟩::l) d l env mem sh aa (look env t):=by
 unfold gd
 split
 · rename_i c h
   split
   · rename_i hn;exact pW h hn
   · rfl
 · rename_i h;exact oe h
 · rfl
theorem zs {t:Nat} {ops:List bN} {d:Option Nat} {l:List bN} {env:List (Nat×AV)} {mem:List (Nat×List AV)} {sh:Sh} {aa:al} {c:Bool}:gd O t ops d l env mem sh aa (some (.pv (.bool c))) =
   if y5 t ops=true then (if c=true then aJ O (ops.map (lV t true)) ⟨bV env t (.pv (.bool true)),mem,sh,aa⟩
     else aJ O (ops.map (lV t false)) ⟨bV env t (.pv (.bool false)),mem,sh,aa⟩) else aJ O ops ⟨env,mem,sh,aa⟩:=rfl
theorem BF {t:Nat} {ops:List bN} {d:Option Nat} {l:List bN} {env:List (Nat×AV)} {mem:List (Nat×List AV)} {sh:Sh} {aa:al}:gd O t ops d l env mem sh aa (some .un)=aJ O l ⟨dq env d .un,mem,sh,aa⟩:=rfl
theorem zt {t:Nat}:y5 t []=true:=rfl
theorem xm {t d:Nat} {g:Option (Nat×Bool)} {args:List c_} {op:AK} {l:List bN}:y5 t (⟨some d,g,args,op⟩::l)=(!(decide (d=t)) && y5 t l):=by
 simp only [y5]
 congr 1
theorem uQ {t:Nat} {b:Bool} {d:Option Nat} {args:List c_} {op:AK}:lV t b ⟨d,none,args,op⟩=⟨d,none,args,op⟩:=rfl
theorem uR {t t':Nat} {b b':Bool} {d:Option Nat} {args:List c_} {op:AK}:lV t b ⟨d,some (t',b'),args,op⟩=if t'=t then (if b'=b then ⟨d,none,args,op⟩ else ⟨d,none,[.c .un],.v .mv⟩) else ⟨d,some (t',b'),args,op⟩:=rfl
theorem pX {d k:Option Nat} {env:List (Nat×AV)} {mem:List (Nat×List AV)} {v:AV} {cs:Option (List AV)} {sh:Sh} {aa:al} :
   xj d k env mem (some ⟨v,cs,sh,aa⟩)=some ⟨dq env d v,cM mem k cs,sh,aa⟩:=rfl
theorem rF {op:AK} {vals:List AV} {cells:Option (List AV)} {sh:Sh} {aa:al}:xk O op (some vals) cells sh aa=exec O op vals cells sh aa:=rfl
def AT (sh:Sh) (aa:al):Option AV→Option Out
 | some x=>some ⟨x,none,sh,aa⟩
 | none=>none
theorem uS {sh:Sh} {aa:al} {x:AV}:AT sh aa (some x)=some ⟨x,none,sh,aa⟩:=rfl
variable {vals:List AV} {cells:Option (List AV)} {sh:Sh} {aa:al}
theorem AU {o:mi}:exec O (.v o) vals cells sh aa=AT sh aa (aV o vals):=by
 show (aV o vals).map _=_
 cases aV o vals<;>rfl
theorem d8 {key off sz d o:Nat} {ag:Bool} {cs:List AV}:exec O (.dv key off sz ag) [.bJ d o] (some cs) sh aa=if d=key∧o=off then AT sh aa (bl ag sz cs off) else none:=by
 show (if d=key∧o=off then (bl ag sz cs off).map _ else none)=_
 cases bl ag sz cs off<;>rfl
theorem eh {key off sz d o:Nat} {v:AV} {cs:List AV}:exec O (.dL key off sz) [.bJ d o,v] (some cs) sh aa =
   if d=key∧o=off∧(au v).length=sz∧(au v).all aA=true then if off+sz≤cs.length then some ⟨.un,some (aD cs off (au v)),sh,aa⟩ else none else none:=rfl
theorem e7 {key:Nat} {zero:List PV}:exec O (.alloc key zero) [] none sh aa=some ⟨.bJ key 0,some (zero.map aV.zeroCell),sh,aa⟩:=rfl
theorem ik {key sz:Nat} {v:AV}:exec O (.box key sz) [v] none sh aa=if (au v).length=sz∧(au v).all aA=true then some ⟨.bJ key 0,some (au v),sh,aa⟩ else none:=rfl
def xn (ag:Bool) (sz off:Nat):Option (Option (List AV))→Option AV
 | some (some cs)=>if cJ cs=true then none else bl ag sz cs off
 | _=>none
theorem pY {ag:Bool} {sz off:Nat} {cs:List AV}:xn ag sz off (some (some cs))=if cJ cs=true then none else bl ag sz cs off:=rfl
def jF (b off sz:Nat) (vs:List AV) (sh:Sh) (aa:al):Option (Option (List AV))→Option Out
 | some (some cs)=>if cJ cs=false∧vs.length=sz∧off+sz≤cs.length∧vs.all bm=true∧vs.all (aq (b+1))=true then some ⟨.un,none,sh.set b (some (aD cs off vs)),aa⟩ else none
 | _=>none
theorem gL {b off sz:Nat} {vs cs:List AV}:jF b off sz vs sh aa (some (some cs))=if cJ cs=false∧vs.length=sz∧off+sz≤cs.length∧vs.all bm=true∧vs.all (aq (b+1))=true then some ⟨.un,none,sh.set b (some (aD cs off vs)),aa⟩ else none:=rfl
theorem ei {sz b off:Nat} {v:AV}:exec O (.d4 sz) [.a0 b off,v] cells sh aa=jF b off sz (bA v) sh aa sh[b]?:=by
 show (match sh[b]? with | some (some cs)=>_ | _=>none)=_
 split
 · rename_i cs h
   rw [h,gL]
 · rename_i h
   unfold jF
   split
   · rename_i cs e;exact absurd e (h cs)
   · rfl
theorem fH {sz b off:Nat} {v:AV}:exec O (.gn sz) [.a0 b off,v] cells sh aa=jF b off sz (au v) sh aa sh[b]?:=by
 show (match sh[b]? with | some (some cs)=>_ | _=>none)=_
 split
 · rename_i cs h
   rw [h,gL]
 · rename_i h
   unfold jF
   split
   · rename_i cs e;exact absurd e (h cs)
   · rfl
theorem iB {sz:Nat} {v:AV}:exec O (.kV sz) [v] cells sh aa=if (bA v).length=sz∧(bA v).all bm=true∧(bA v).all (aq sh.length)=true then some ⟨.a0 sh.length 0,none,sh++[some (bA v)],aa⟩ else none:=rfl
theorem iC {sz:Nat} {v:AV}:exec O (.nq sz) [v] cells sh aa=if (au v).length=sz∧(au v).all bm=true∧(au v).all (aq sh.length)=true then some ⟨.a0 sh.length 0,none,sh++[some (au v)],aa⟩ else none:=rfl
theorem fJ {zero:List PV}:exec O (.fR zero) [] cells sh aa=some ⟨.a0 sh.length 0,none,sh++[some (zero.map aV.zeroCell)],aa⟩:=rfl
theorem gz {sz bytes:Nat} {ag:Bool} {zero:List PV} {k k':IntKind} {n n':Int}:exec O (.gO sz bytes ag zero) [.pv (.int k n),.pv (.int k' n')] cells sh aa =
   if n=n'∧0≤n∧n≤9223372036854775807∧n*bytes≤140737488355328∧zero.length=sz then some ⟨.aU sh.length sz n.toNat ag,none,sh++[some ((List.replicate n.toNat (zero.map .pv)).flatten)],aa⟩ else none:=rfl
theorem e8 {key sz bytes:Nat} {zero:List PV} {k k':IntKind} {n n':Int}:exec O (.fp key sz bytes zero) [.pv (.int k n),.pv (.int k' n')] none sh aa =
   if n=n'∧0≤n∧n≤9223372036854775807∧n*bytes≤140737488355328∧zero.length=sz then some ⟨.fk key n.toNat,some ((List.replicate n.toNat (zero.map .pv)).flatten),sh,aa⟩ else none:=rfl
theorem uT {d s b:Nat} {z:List PV}:AK.key (.fp d s b z)=some d:=rfl
theorem rG {live:List Nat} {d n:Nat}:cC live (.fk d n)=live.contains d:=rfl
def Cd (d sz:Nat) (ag:Bool) (st:St):Option (List AV)→St
 | some cells=>if cells.all bm=true∧cells.all (aq (st.sh.length+1))=true then
     { st with env:=nr d st.sh.length sz cells.length ag st.env (st.env.map (·.1)),mem:=kC d st.mem,sh:=st.sh++[some cells] } else st
 | none=>st
theorem uU {d sz:Nat} {ag:Bool} {env:List (Nat×AV)} {mem:List (Nat×List AV)} {cells:List AV}:Cd d sz ag ⟨env,mem,sh,aa⟩ (some cells) =
   if cells.all bm=true∧cells.all (aq (sh.length+1))=true then ⟨nr d sh.length sz cells.length ag env (env.map (·.1)),kC d mem,sh++[some cells],aa⟩ else ⟨env,mem,sh,aa⟩:=rfl
theorem xo {st:St}:oN [] st=st:=rfl
theorem uV {d sz:Nat} {ag:Bool} {r:List (Nat×Nat×Bool)} {st:St}:oN ((d,sz,ag)::r) st=oN r (y7 d sz ag st):=rfl
theorem xp {d s sz n:Nat} {ag:Bool} {env:List (Nat×AV)}:nr d s sz n ag env []=[]:=rfl
def Ce (t:Nat) (r:List (Nat×AV)):Option AV→List (Nat×AV)
 | some v=>(t,v)::r
 | none=>r
theorem uW {t:Nat} {r:List (Nat×AV)} {v:AV}:Ce t r (some v)=(t,v)::r:=rfl
theorem uX {d s sz n d' o:Nat} {ag:Bool}:qW d s sz n ag (.bJ d' o)=some (if d'=d then .a0 s o else .bJ d' o):=rfl
theorem uY {d s sz n d' m:Nat} {ag:Bool}:qW d s sz n ag (.fk d' m)=if d'=d then (if m*sz≤n then some (.aU s sz m ag) else none) else some (.fk d' m):=rfl
theorem zu {d s sz n:Nat} {ag:Bool} {p:PV}:qW d s sz n ag (.pv p)=some (.pv p):=rfl
theorem uZ {d s sz n b z m:Nat} {ag g:Bool}:qW d s sz n ag (.aU b z m g)=some (.aU b z m g):=rfl
theorem xq {α:Type} {d:Nat}:kC d ([]:List (Nat×α))=[]:=rfl
theorem u_ {α:Type} {d k:Nat} {v:α} {r:List (Nat×α)}:kC d ((k,v)::r)=if k=d then kC d r else (k,v)::kC d r:=rfl
def CE (ts:List Nat) (st:St):Option AV→St
 | some (.aU b _ _ _)=>match st.sh[b]? with
   | some (some cells)=>if cJ cells=false then { st with env:=qX b st.sh.length ts st.env,sh:=st.sh.set b none++[some cells] } else st
   | _=>st
 | _=>st
def CF (r:List Nat) (st:St):Option AV→St
 | some (.aU b _ _ _)=>match st.sh[b]? with
   | some (some cells)=>if cJ cells=false∧(da (.agg cells)).contains b=false then
       match eO st.sh cells with
       | some ps=>jh r { st with sh:=(cm st.sh [.agg cells]).set b (some (ps.map .pv)) }
       | none=>jh r st
     else jh r st
   | _=>jh r st
 | _=>jh r st
def Cf (aa:al):Option (AV×Sh×al)→Option Out
 | some (v,sh',ts)=>some ⟨v,none,sh',ts⟩
 | none=>none
theorem va {v:AV} {sh':Sh} {ts:al}:Cf aa (some (v,sh',ts))=some ⟨v,none,sh',ts⟩:=rfl
def AW (ag:Bool) (sz bytes:Nat) (sh:Sh) (aa:al):Option (List PV)→Option (AV×Sh×al)
 | some xs=>if aP sz xs=true then (if xs.isEmpty=true then some (.cw [],sh,aa) else if xs.length*bytes≤140737488355328 then some (.aU sh.length sz xs.length ag,sh++[some ((xs.flatMap aB).map .pv)],aa) else none) else none
 | none=>none
theorem pZ {ag:Bool} {sz bytes:Nat} {xs:List PV}:AW ag sz bytes sh aa (some xs) =
   if aP sz xs=true then (if xs.isEmpty=true then some (.cw [],sh,aa) else if xs.length*bytes≤140737488355328 then some (.aU sh.length sz xs.length ag,sh++[some ((xs.flatMap aB).map .pv)],aa) else none) else none:=rfl
theorem rH {sz bytes:Nat} {ag:Bool}:(AK.gp sz bytes ag).key=none:=rfl
theorem zw {p:PV} {r:List AV}:cJ (.pv p::r)=false:=rfl
theorem gA:exec O .jc [] cells sh aa=some ⟨.dK sh.length,none,sh++[some [.cz []]],aa⟩:=rfl
def AX (ok:Bool) (z:PV) (sh:Sh) (aa:al):Option (Option PV)→Option Out
 | some r=>some ⟨fu ok z r,none,sh,aa⟩
 | none=>none
theorem vb {ok:Bool} {z:PV} {r:Option PV}:AX ok z sh aa (some r)=some ⟨fu ok z r,none,sh,aa⟩:=rfl
theorem mH {z:PV} {r:Option PV}:fu false z r=.pv (r.getD z):=rfl
def xt (c:CK) (ok:Bool) (z k:PV) (sh:Sh) (aa:al):Option (Option (List AV))→Option Out
 | some (some [.cz kvs])=>AX ok z sh aa (fU c kvs k)
 | _=>none
theorem lW {c:CK} {ok:Bool} {z k:PV} {kvs:List (PV×PV)}:xt c ok z k sh aa (some (some [.cz kvs]))=AX ok z sh aa (fU c kvs k):=rfl
theorem e9 {c:CK} {ok:Bool} {z k:PV} {s:Nat}:exec O (.gf c ok z) [.dK s,.pv k] cells sh aa=xt c ok z k sh aa sh[s]?:=by
 show (match sh[s]? with | some (some [.cz kvs])=>(fU c kvs k).map _ | _=>none)=_
 split
 · rename_i kvs h
   rw [h,lW]
   cases fU c kvs k<;>rfl
 · rename_i h
   unfold xt
   split
   · rename_i kvs e;exact absurd e (h kvs)
   · rfl
def AY (s:Nat) (sh:Sh) (aa:al):Option (List (PV×PV))→Option Out
 | some kvs=>some ⟨.un,none,sh.set s (some [.cz kvs]),aa⟩
 | none=>none
theorem vc {s:Nat} {kvs:List (PV×PV)}:AY s sh aa (some kvs)=some ⟨.un,none,sh.set s (some [.cz kvs]),aa⟩:=rfl
def AZ (c:CK) (s:Nat) (k:PV) (sh:Sh) (aa:al):Option (Option (List AV))→Option PV→Option Out
 | some (some [.cz kvs]),some p=>AY s sh aa (hG c kvs k p)
 | _,_=>none
theorem na {c:CK} {s:Nat} {k p:PV} {kvs:List (PV×PV)}:AZ c s k sh aa (some (some [.cz kvs])) (some p)=AY s sh aa (hG c kvs k p):=rfl
theorem iD {c:CK} {k:PV} {s:Nat} {v:AV}:exec O (.kW c) [.dK s,.pv k,v] cells sh aa=AZ c s k sh aa sh[s]? (gX [] v):=by
 show (match sh[s]?,gX [] v with | some (some [.cz kvs]),some p=>(hG c kvs k p).map _ | _,_=>none)=_
 split
 · rename_i kvs p h1 h2
   rw [h1,h2,na]
   cases hG c kvs k p<;>rfl
 · rename_i h
   unfold AZ
   split
   · rename_i kvs p e1 e2;exact absurd e2 (h kvs p e1)
   · rfl
def A0 (neg:Bool):Option Bool→Option AV
 | some b=>some (.pv (.bool (if neg then !b else b)))
 | none=>none
theorem vd {neg b:Bool}:A0 neg (some b)=some (.pv (.bool (if neg then !b else b))):=rfl
def Cg (cs:List CK) (neg:Bool):Option PV→Option PV→Option AV
 | some (.agg ps),some (.agg qs)=>A0 neg (cn cs ps qs)
 | _,_=>none
theorem vf {cs:List CK} {neg:Bool} {ps qs:List PV}:Cg cs neg (some (.agg ps)) (some (.agg qs))=A0 neg (cn cs ps qs):=rfl
def A1 (sh:Sh):Option (AV×al)→Option Out
 | some (v,ts)=>some ⟨v,none,sh,ts⟩
 | none=>none
theorem vg {v:AV} {ts:al}:A1 sh (some (v,ts))=some ⟨v,none,sh,ts⟩:=rfl
theorem fK {sz bytes:Nat} {s x:AV}:exec O (.append sz bytes) [s,x] cells sh aa=A1 sh (bd sz bytes s x aa):=by
 show (bd sz bytes s x aa).map _=_
 cases bd sz bytes s x aa<;>rfl
theorem iT {sz bytes:Nat} {x:AV}:exec O (.clone sz bytes) [x] cells sh aa=A1 sh (bd sz bytes (.cw []) x aa):=by
 show (bd sz bytes (.cw []) x aa).map _=_
 cases bd sz bytes (.cw []) x aa<;>rfl
def Ak (sz bytes:Nat) (s:AV) (aa:al):Option (List PV)→Option (AV×al)
 | some xs=>if aP sz xs=true then
   match s with
   | .cw l=>if xs.isEmpty=true then some (.cw l,aa) else if aP sz l=true∧(l.length+xs.length)*bytes≤140737488355328 then
       some (.own (l++xs) aa.length,aa++[(l++xs).length]) else none
   | .own l τ=>if aa[τ]?=some l.length∧aP sz l=true∧(l.length+xs.length)*bytes≤140737488355328 then
       some (.own (l++xs) τ,aa.set τ (l++xs).length) else none
   | _=>none
   else none
 | none=>none
theorem vh {sz bytes:Nat} {l xs:List PV}:Ak sz bytes (.cw l) aa (some xs)=if aP sz xs=true then if xs.isEmpty=true then some (.cw l,aa) else if aP sz l=true∧(l.length+xs.length)*bytes≤140737488355328 then
       some (.own (l++xs) aa.length,aa++[(l++xs).length]) else none else none:=rfl
theorem vi {sz bytes τ:Nat} {l xs:List PV}:Ak sz bytes (.own l τ) aa (some xs)=if aP sz xs=true then if aa[τ]?=some l.length∧aP sz l=true∧(l.length+xs.length)*bytes≤140737488355328 then
       some (.own (l++xs) τ,aa.set τ (l++xs).length) else none else none:=rfl
def A3 (aa:al):Option (AV×Sh)→Option Out
 | some (v,sh)=>some ⟨v,none,sh,aa⟩
 | none=>none
theorem vj {v:AV} {sh:Sh}:A3 aa (some (v,sh))=some ⟨v,none,sh,aa⟩:=rfl
def xu (sz bytes:Nat) (ag:Bool) (s:AV) (sh:Sh) (aa:al):Option (List PV)→Option Out
 | some xs=>if aP sz xs=true then A3 aa (ml sz bytes ag s xs sh aa) else none
 | none=>none
theorem rI {sz bytes:Nat} {ag:Bool} {s:AV} {xs:List PV}:xu sz bytes ag s sh aa (some xs)=if aP sz xs=true then A3 aa (ml sz bytes ag s xs sh aa) else none:=rfl
theorem gC {sz bytes:Nat} {ag:Bool} {s x:AV}:exec O (.cS sz bytes ag) [s,x] cells sh aa=xu sz bytes ag s sh aa (bw x):=by
 simp only [exec,xu]
 cases bw x with
 | none=>rfl
 | some xs=>
   simp only
   split
   · cases ml sz bytes ag s xs sh aa<;>rfl
   · rfl
def A4 (sz bytes:Nat) (ag:Bool) (b z n:Nat) (g:Bool) (xs:List PV) (sh:Sh):Option (Option (List AV))→Option (AV×Sh)
 | some (some cells)=>if z=sz∧g=ag∧cJ cells=false∧n*sz≤cells.length∧(n+xs.length)*bytes≤140737488355328 then
       if xs.isEmpty=true then some (.aU b sz n ag,sh) else some (.aU sh.length sz (n+xs.length) ag,sh.set b none++[some (cells.take (n*sz)++(xs.flatMap aB).map .pv)])
     else none
 | _=>none
theorem p0 {sz bytes:Nat} {ag:Bool} {b z n:Nat} {g:Bool} {xs:List PV} {cells:List AV}:A4 sz bytes ag b z n g xs sh (some (some cells))=if z=sz∧g=ag∧cJ cells=false∧n*sz≤cells.length∧(n+xs.length)*bytes≤140737488355328 then
       if xs.isEmpty=true then some (.aU b sz n ag,sh) else some (.aU sh.length sz (n+xs.length) ag,sh.set b none++[some (cells.take (n*sz)++(xs.flatMap aB).map .pv)])
     else none:=rfl
theorem xv {sz bytes:Nat} {ag:Bool} {xs:List PV}:ml sz bytes ag (.cw []) xs sh aa=k9 sz bytes ag (.cw []) xs sh:=rfl
theorem xw {sz bytes τ:Nat} {ag:Bool} {xs:List PV}:ml sz bytes ag (.own [] τ) xs sh aa=if aa[τ]?=some 0 then k9 sz bytes ag (.own [] τ) xs sh else none:=rfl
theorem zx {sz bytes:Nat} {ag:Bool} {s:AV} {xs:List PV}:k9 sz bytes ag s xs sh=if xs.isEmpty=true then some (s,sh) else if xs.length*bytes≤140737488355328 then some (.aU sh.length sz xs.length ag,sh++[some ((xs.flatMap aB).map .pv)]) else none:=rfl
def A5 (r:List Nat) (t:Nat) (st:St) (v:AV):Option PV→St
 | some p=>jg r { st with env:=bV st.env t (.pv p),sh:=cm st.sh [v] }
 | none=>jg r (qV v st)
def xx (d:Nat) (cs:List AV) (st:St):Option (List PV)→St
 | some ps=>{ st with mem:=bV st.mem d (ps.map .pv),sh:=cm st.sh [.agg cs] }
 | none=>st
def xy (d:Nat) (st:St):Option (List AV)→St
 | some cs=>xx d cs st (eO st.sh cs)
 | none=>st
theorem vk {d:Nat} {st:St}:qV (.bJ d 0) st=xy d st (look st.mem d):=by
 simp only [qV]
 cases look st.mem d with
 | none=>rfl
 | some cs=>
   simp only [xy]
   cases eO st.sh cs<;>rfl
theorem rJ {d:Nat} {st:St} {cs:List AV}:xy d st (some cs)=xx d cs st (eO st.sh cs):=rfl
theorem rK {d:Nat} {st:St} {cs:List AV} {ps:List PV}:xx d cs st (some ps)={ st with mem:=bV st.mem d (ps.map .pv),sh:=cm st.sh [.agg cs] }:=rfl
def A6 (r:List Nat) (t:Nat) (st:St):Option AV→St
 | some v=>A5 r t st v (gX st.sh v)
 | none=>jg r st
theorem xz {st:St}:jg [] st=st:=rfl
theorem vl {t:Nat} {r:List Nat} {st:St}:jg (t::r) st=A6 r t st (look st.env t):=by
 simp only [jg]
 cases look st.env t with
 | none=>rfl
 | some v=>
   simp only [A6]
   cases gX st.sh v<;>rfl
theorem vm {r:List Nat} {t:Nat} {st:St} {v:AV}:A6 r t st (some v)=A5 r t st v (gX st.sh v):=rfl
theorem vn {r:List Nat} {t:Nat} {st:St} {v:AV}:A5 r t st v none=jg r (qV v st):=rfl
def Ch (aa:al):Option Sh→Option Out
 | some sh=>some ⟨.j1 [],none,sh,aa⟩
 | none=>none
theorem vp {sh:Sh}:Ch aa (some sh)=some ⟨.j1 [],none,sh,aa⟩:=rfl
def A7 (sz:Nat) (zero:List PV) (sh:Sh) (b off n:Nat):Option (Option (List AV))→Option Sh
 | some (some cells)=>if cJ cells=false∧off+n*sz≤cells.length∧zero.length=sz then some (sh.set b (some (aD cells off (List.replicate n (zero.map .pv)).flatten))) else none
 | _=>none
theorem p6 {sz b off n:Nat} {zero:List PV} {cells:List AV}:A7 sz zero sh b off n (some (some cells))=if cJ cells=false∧off+n*sz≤cells.length∧zero.length=sz then some (sh.set b (some (aD cells off (List.replicate n (zero.map .pv)).flatten))) else none:=rfl
def lX (sz:Nat) (sh:Sh) (aa:al) (x:AV):Option (List PV)→Option Out
 | some xs=>xA aa (k6 sz sh xs x)
 | none=>none
where xA (aa:al):Option (Nat×Sh)→Option Out
 | some (k,sh')=>some ⟨.pv (.int .i64 (k:Int)),none,sh',aa⟩
 | none=>none
theorem p7 {sz:Nat} {x:AV} {xs:List PV}:lX sz sh aa x (some xs)=lX.xA aa (k6 sz sh xs x):=rfl
theorem rL {k:Nat} {sh':Sh}:lX.xA aa (some (k,sh'))=some ⟨.pv (.int .i64 (k:Int)),none,sh',aa⟩:=rfl
theorem gB {sz:Nat} {x y:AV}:exec O (.gP sz) [x,y] cells sh aa=lX sz sh aa x (bw y):=by
 simp only [exec,lX]
 cases bw y with
 | none=>rfl
 | some xs=>simp only;cases k6 sz sh xs x<;>rfl
def BG (sz:Nat) (sh:Sh) (xs:List PV) (b z n:Nat):Option (Option (List AV))→Option (Nat×Sh)
 | some (some cells)=>if z=sz∧aP sz xs=true∧cJ cells=false∧n*sz≤cells.length then
       some (min xs.length n,sh.set b (some (aD cells 0 (((xs.take n).flatMap aB).map .pv)))) else none
 | _=>none
theorem rM {sz b z n:Nat} {xs:List PV} {cells:List AV}:BG sz sh xs b z n (some (some cells))=if z=sz∧aP sz xs=true∧cJ cells=false∧n*sz≤cells.length then
       some (min xs.length n,sh.set b (some (aD cells 0 (((xs.take n).flatMap aB).map .pv)))) else none:=rfl
theorem vq {s:Nat}:AK.key (.gP s)=none:=rfl
def p8 (sz bytes:Nat) (sh:Sh) (aa:al) (s e:AV):Option (List PV)→Option Out
 | some xs=>A8 sh aa (oM sz bytes xs s e aa)
 | none=>none
where A8 (sh:Sh) (aa:al):Option PV→Option Out
 | some p=>some ⟨.pv p,none,sh,aa⟩
 | none=>none
theorem rN {sz bytes:Nat} {s e:AV} {xs:List PV}:p8 sz bytes sh aa s e (some xs)=p8.A8 sh aa (oM sz bytes xs s e aa):=rfl
theorem vr {p:PV}:p8.A8 sh aa (some p)=some ⟨.pv p,none,sh,aa⟩:=rfl
theorem eJ {sz bytes:Nat} {s x e:AV}:exec O (.dz sz bytes) [s,x,e] cells sh aa=p8 sz bytes sh aa s e (bw x):=by
 simp only [exec,p8]
 cases bw x with
 | none=>rfl
 | some xs=>simp only;cases oM sz bytes xs s e aa<;>rfl
theorem xB {sz bytes τ σ:Nat} {xs l m:List PV}:oM sz bytes xs (.own l τ) (.own m σ) aa=if τ=σ∧aa[τ]?=some m.length∧m.length=l.length+xs.length∧aP 1 l=true∧aP 1 xs=true∧sz=1 ∧
     cb (m.drop l.length) xs=true∧xs.isEmpty=false∧m.length*bytes≤140737488355328 then some (.bz (l++xs)) else none:=rfl
theorem vt:cb [] []=true:=rfl
theorem rO {a b:List UInt8} {r q:List PV}:cb (.str a::r) (.str b::q)=((a == b) && cb r q):=rfl
theorem p9 {s b:Nat}:AK.key (.dz s b)=none:=rfl
theorem rP {s:Nat} {z:List PV}:AK.key (.eM s z)=none:=rfl
theorem rQ {sz b n:Nat} {ag lo hi:Bool} {rest:List AV}:aV (.qU sz lo hi) (.aU b sz n ag::rest)=jf sz lo hi (.aU b sz n ag::rest):=rfl
theorem xC {l:List PV}:bw (.pv (.bz l))=some l:=rfl
theorem vu {l:List PV}:bw (.cw l)=some l:=rfl
theorem vv {l:List PV} {τ:Nat}:bw (.own l τ)=some l:=rfl
theorem rR {sz:Nat}:aP sz []=true:=rfl
theorem p_ {sz:Nat} {p:PV} {r:List PV}:aP sz (p::r)=((aB p).length == sz):=rfl
def BH (sh:Sh) (aa:al):Option (List PV)→Option Out
 | some rs=>some ⟨k7 rs,none,sh,aa⟩
 | none=>none
theorem vw {rs:List PV}:BH sh aa (some rs)=some ⟨k7 rs,none,sh,aa⟩:=rfl
def Al (O:cZ) (g:Nat):Option (List PV)→Option (List PV)
 | some cv=>O.p g cv
 | none=>none
theorem lY {g:Nat} {cv:List PV}:Al O g (some cv)=O.p g cv:=rfl
theorem rS {g:Nat}:exec O (.aQ g) vals cells sh aa=BH sh aa (Al O g (bZ [] vals)):=by
 show (match bZ [] vals with | some cv=>_ | none=>none)=_
 split
 · rename_i cv h
   rw [h,lY]
   cases O.p g cv<;>rfl
 · rename_i h;rw [h];rfl
def A9 (n:Nat) (ts0:al):Option (List AV×Sh×al)→Option Out
 | some (rs,sh',ts)=>some ⟨k8 (rs.map (cA n)),none,eP n sh',ts0++ts⟩
 | none=>none
theorem vz {n:Nat} {ts0:al} {rs:List AV} {sh':Sh} {ts:al}:A9 n ts0 (some (rs,sh',ts))=some ⟨k8 (rs.map (cA n)),none,eP n sh',ts0++ts⟩:=rfl
def xD (O:cZ) (g n:Nat) (q:List AV×Sh×al×al):Option Out:=A9 n q.2.2.1 (O.i g q.1 q.2.1 q.2.2.2)
theorem xE {g n:Nat} {a:List AV} {s:Sh} {o t:al}:xD O g n (a,s,o,t)=A9 n o (O.i g a s t):=rfl
def BI (O:cZ) (g:Nat) (args:List AV) (sh:Sh) (aa:al):Option Out:=
 if args.all aY=true then xD O g aa.length (bR aa args sh) else none
theorem xF {g:Nat} {args:List AV}:BI O g args sh aa=if args.all aY=true then xD O g aa.length (bR aa args sh) else none:=rfl
def b2sO:Option (List UInt8)→Option AV
 | some s=>some (.pv (.str s))
 | none=>none
theorem b2sO_some {s:List UInt8}:b2sO (some s)=some (.pv (.str s)):=rfl
theorem zy {l:List PV}:aV .b2s [.pv (.bz l)]=b2sO (cd l):=by show ((some l).bind cd).map _=_;simp only [Option.bind_some];cases cd l<;>rfl
theorem rT {own:List Nat} {i:Nat}:ep own i []=[]:=rfl
theorem qa {own:List Nat} {i:Nat} {v:AV} {r:List AV}:ep own i (v::r)=(if own.contains i then v else iM v)::ep own (i+1) r:=rfl
theorem xG {p:PV}:iM (.pv p)=.pv p:=rfl
theorem vA {l:List PV}:iM (.cw l)=.pv (.bz l):=rfl
theorem vB {l:List PV} {τ:Nat}:iM (.own l τ)=.pv (.bz l):=rfl
theorem rU {b o:Nat}:iM (.a0 b o)=.a0 b o:=rfl
theorem xH {g:Nat} {cap:List AV}:iM (.fn g cap)=.fn g cap:=rfl
theorem rV {b s n:Nat} {ag:Bool}:iM (.aU b s n ag)=.aU b s n ag:=rfl
def A_ (cs:List AV):Option (List PV)→AV
 | some ps=>.pv (.agg ps)
 | none=>.agg cs
theorem qb {cs:List AV} {ps:List PV}:A_ cs (some ps)=.pv (.agg ps):=rfl
def qc {α:Type}:Option α→Option (List α)→Option (List α)
 | some x,some l=>some (x::l)
 | _,_=>none
theorem rW {α:Type} {x:α} {l:List α}:qc (some x) (some l)=some (x::l):=rfl
theorem rX {env:List (Nat×AV)}:cB env []=some []:=rfl
theorem qd {env:List (Nat×AV)} {x:c_} {r:List c_}:cB env (x::r)=qc (dZ env x) (cB env r):=by
 simp only [cB]
 cases dZ env x<;>cases cB env r<;>rfl
theorem zz {env:List (Nat×AV)} {n:Nat}:dZ env (.t n)=look env n:=rfl
theorem zA {env:List (Nat×AV)} {v:AV}:dZ env (.c v)=some v:=rfl
theorem xI:jd []=some []:=rfl
theorem rY:bZ sh []=some []:=rfl
theorem qe {v:AV} {r:List AV}:bZ sh (v::r)=qc (gX sh v) (bZ sh r):=by
 simp only [bZ]
 cases gX sh v<;>cases bZ sh r<;>rfl
theorem vC:eO sh []=some []:=rfl
theorem zB {p:PV}:jI (.pv p)=some p:=rfl
theorem A' {p:PV}:gX sh (.pv p)=some p:=rfl
theorem zC {l:List PV}:gX sh (.cw l)=some (.bz l):=rfl
theorem zD {l:List PV} {τ:Nat}:gX sh (.own l τ)=some (.bz l):=rfl
def Ci:Option (List PV)→Option PV
 | some ps=>some (.agg ps)
 | none=>none
theorem vD {ps:List PV}:Ci (some ps)=some (.agg ps):=rfl
theorem rZ {p:PV}:cK sh (.pv p)=some p:=rfl
theorem qf {l:List PV}:cK sh (.cw l)=some (.bz l):=rfl
theorem qg {l:List PV} {τ:Nat}:cK sh (.own l τ)=some (.bz l):=rfl
def Ba (sz n:Nat) (ag:Bool):Option (Option (List AV))→Option PV
 | some (some cells)=>if cells.length=n*sz then ((jd cells).bind (g_ sz ag n)).map .bz
   else if cJ cells=false∧n*sz≤cells.length then ((jd (cells.take (n*sz))).bind (g_ sz ag n)).map .bz else none
 | _=>none
theorem og {b sz n:Nat} {ag:Bool}:cK sh (.aU b sz n ag)=Ba sz n ag sh[b]?:=rfl
theorem xJ {b sz n:Nat} {ag:Bool}:gX sh (.aU b sz n ag)=Ba sz n ag sh[b]?:=rfl
theorem vE {sz n:Nat} {ag:Bool} {cells:List AV}:Ba sz n ag (some (some cells))=if cells.length=n*sz then ((jd cells).bind (g_ sz ag n)).map .bz else if cJ cells=false∧n*sz≤cells.length then ((jd (cells.take (n*sz))).bind (g_ sz ag n)).map .bz else none:=rfl
theorem xK {r:PV}:k7 [r]=.pv r:=rfl
theorem xL {a b:PV} {r:List PV}:k7 (a::b::r)=.j1 (.pv a::.pv b::r.map .pv):=rfl
theorem xM {r:AV}:k8 [r]=r:=rfl
theorem xN:k8 []=.j1 []:=rfl
theorem xO {xs:List AV}:bR aa xs sh=((aI aa [] xs).1,(bK (aI aa [] xs).2.1 (aI aa [] xs).2.2 sh).1,(bK (aI aa [] xs).2.1 (aI aa [] xs).2.2 sh).2.1,(bK (aI aa [] xs).2.1 (aI aa [] xs).2.2 sh).2.2):=rfl
theorem vF {az ts:al}:aI az ts []=([],az,ts):=rfl
theorem r5 {az ts:al} {v:AV} {r:List AV}:aI az ts (v::r)=((aW az ts v).1::(aI (aW az ts v).2.1 (aW az ts v).2.2 r).1,(aI (aW az ts v).2.1 (aW az ts v).2.2 r).2):=rfl
theorem vG {az ts:al}:bK az ts []=([],az,ts):=rfl
theorem r6 {az ts:al} {r:Sh}:bK az ts (none::r)=(none::(bK az ts r).1,(bK az ts r).2):=rfl
theorem r7 {az ts:al} {cs:List AV} {r:Sh}:bK az ts (some cs::r)=(some (aI az ts cs).1::(bK (aI az ts cs).2.1 (aI az ts cs).2.2 r).1,(bK (aI az ts cs).2.1 (aI az ts cs).2.2 r).2):=rfl
theorem vH {az ts:al}:bS az ts []=([],az,ts):=rfl
theorem r9 {az ts:al} {t:Nat} {v:AV} {r:List (Nat×AV)}:bS az ts ((t,v)::r)=((t,(aW az ts v).1)::(bS (aW az ts v).2.1 (aW az ts v).2.2 r).1,(bS (aW az ts v).2.1 (aW az ts v).2.2 r).2):=rfl
theorem vJ {az ts:al}:de az ts []=([],az,ts):=rfl
theorem r_ {az ts:al} {t:Nat} {v:List AV} {r:List (Nat×List AV)}:de az ts ((t,v)::r)=((t,(aI az ts v).1)::(de (aI az ts v).2.1 (aI az ts v).2.2 r).1,(de (aI az ts v).2.1 (aI az ts v).2.2 r).2):=rfl
theorem vK {az ts:al} {l:List PV} {τ:Nat}:aW az ts (.own l τ)=if az[τ]?=some l.length then (.own l ts.length,az.set τ (l.length+1),ts++[l.length]) else (.pv (.bz l),az,ts):=rfl
theorem vL {az ts:al} {l:List PV}:aW az ts (.cw l)=(.own l ts.length,az,ts++[l.length]):=rfl
theorem xQ {az ts:al} {p:PV}:aW az ts (.pv p)=(.pv p,az,ts):=rfl
def Bb (az ts:al) (p:List AV):Bool→AV×al×al
 | true=>(.agg p,az,ts)
 | false=>(.agg (cf az ts p).1,(cf az ts p).2.1,(cf az ts p).2.2)
theorem qh {az ts:al} {p:List AV}:Bb az ts p true=(.agg p,az,ts):=rfl
theorem sa {az ts:al} {a b:Nat}:aW az ts (.bJ a b)=(.bJ a b,az,ts):=rfl
theorem sb {az ts:al} {a b:Nat}:aW az ts (.a0 a b)=(.a0 a b,az,ts):=rfl
theorem sd {az ts:al} {a b c:Nat} {d:Bool}:aW az ts (.aU a b c d)=(.aU a b c d,az,ts):=rfl
theorem xS {az ts:al} {a:Nat} {c:List AV}:aW az ts (.fn a c)=(.fn a c,az,ts):=rfl
theorem se {s:Nat} {az ts:al}:aW az ts (.dK s)=((.dK s),az,ts):=rfl
theorem sf {s:List (PV×PV)} {az ts:al}:aW az ts (.cz s)=((.cz s),az,ts):=rfl
theorem zE {env:List (Nat×AV)} {mem:List (Nat×List AV)}:norm ⟨env,mem,sh,aa⟩ =
   { env:=(bS aa [] env).1,
     mem:=(de (bS aa [] env).2.1 (bS aa [] env).2.2 mem).1,
     sh:=(bK (de (bS aa [] env).2.1 (bS aa [] env).2.2 mem).2.1 (de (bS aa [] env).2.1 (bS aa [] env).2.2 mem).2.2 sh).1,
     aa:=(bK (de (bS aa [] env).2.1 (bS aa [] env).2.2 mem).2.1 (de (bS aa [] env).2.1 (bS aa [] env).2.2 mem).2.2 sh).2.2 }:=rfl
theorem qi {live:List Nat} {env:List (Nat×AV)} {mem:List (Nat×List AV)}:restrict live ⟨env,mem,sh,aa⟩=⟨aO live env live,aT mem live,sh,aa⟩:=rfl
def Am (live:List Nat) (t:Nat) (rest:List (Nat×AV)):Option AV→List (Nat×AV)
 | some v=>if cC live v=true then (t,v)::rest else rest
 | none=>rest
theorem sg {live:List Nat} {t:Nat} {rest:List (Nat×AV)} {v:AV}:Am live t rest (some v)=if cC live v=true then (t,v)::rest else rest:=rfl
theorem kG {live:List Nat} {env:List (Nat×AV)}:aO live env []=[]:=rfl
theorem jU {live:List Nat} {env:List (Nat×AV)} {t:Nat} {r:List Nat}:aO live env (t::r)=Am live t (aO live env r) (look env t):=by
 show (match look env t with | some v=>_ | none=>_)=_
 cases look env t<;>rfl
def xT (t:Nat) (rest:List (Nat×List AV)):Option (List AV)→List (Nat×List AV)
 | some v=>(t,v)::rest
 | none=>rest
theorem sj {t:Nat} {rest:List (Nat×List AV)} {v:List AV}:xT t rest (some v)=(t,v)::rest:=rfl
theorem sk {t:Nat} {rest:List (Nat×List AV)}:xT t rest none=rest:=rfl
theorem kH {mem:List (Nat×List AV)}:aT mem []=[]:=rfl
theorem jV {mem:List (Nat×List AV)} {t:Nat} {r:List Nat}:aT mem (t::r)=xT t (aT mem r) (look mem t):=by
 show (match look mem t with | some v=>_ | none=>_)=_
 cases look mem t<;>rfl
theorem sl {live:List Nat} {d o:Nat}:cC live (.bJ d o)=live.contains d:=rfl
theorem vM {live:List Nat} {l:List PV} {τ:Nat}:cC live (.own l τ)=true:=rfl
theorem xU {live:List Nat} {p:PV}:cC live (.pv p)=true:=rfl
theorem vN {live:List Nat} {l:List PV}:cC live (.cw l)=true:=rfl
theorem sn:dC []=true:=rfl
theorem qj {v:AV} {r:List AV}:dC (v::r)=(ft v && dC r):=rfl
theorem xW {p:PV}:ft (.pv p)=true:=rfl
theorem vO {l:List PV}:ft (.cw l)=true:=rfl
theorem sq {live:List Nat} {a b:Nat}:cC live (.a0 a b)=true:=rfl
theorem sr {live:List Nat} {a b c:Nat} {d:Bool}:cC live (.aU a b c d)=true:=rfl
theorem xX {live:List Nat} {a:Nat} {c:List AV}:cC live (.fn a c)=a_.eN c:=rfl
theorem ss {s:Nat} {live:List Nat}:cC live (.dK s)=true:=rfl
theorem look_nil {α:Type} {t:Nat}:look ([]:List (Nat×α)) t=none:=rfl
theorem vP {α:Type} {k t:Nat} {v:α} {r:List (Nat×α)}:look ((k,v)::r) t=if k=t then some v else look r t:=rfl
theorem xY {α:Type} {t:Nat} {v:α}:bV ([]:List (Nat×α)) t v=[(t,v)]:=rfl
theorem vQ {α:Type} {k t:Nat} {v u:α} {r:List (Nat×α)}:bV ((k,v)::r) t u=if k=t then (k,u)::r else (k,v)::bV r t u:=rfl
theorem vR {env:List (Nat×AV)} {d:Nat} {v:AV}:dq env (some d) v=bV env d v:=rfl
theorem vS {env:List (Nat×AV)} {v:AV}:dq env none v=env:=rfl
theorem vT {mem:List (Nat×List AV)} {k:Nat} {cs:List AV}:cM mem (some k) (some cs)=bV mem k cs:=rfl
theorem cQ {mem:List (Nat×List AV)} {o:Option (List AV)}:cM mem none o=mem:=rfl
theorem su {mem:List (Nat×List AV)} {k:Nat}:cM mem (some k) none=mem:=rfl
theorem oh {i:Nat}:bh i []=[]:=rfl
theorem mI {i:Nat} {v:AV} {r:List AV}:bh i (v::r)=(i,v)::bh (i+1) r:=rfl
theorem sv {cs:List AV}:au (.agg cs)=cs:=rfl
theorem qk {cs:List PV}:au (.pv (.agg cs))=cs.map .pv:=rfl
theorem ql {b:Bool}:au (.pv (.bool b))=[.pv (.bool b)]:=rfl
theorem sw {k:IntKind} {n:Int}:au (.pv (.int k n))=[.pv (.int k n)]:=rfl
theorem sx {s:List UInt8}:au (.pv (.str s))=[.pv (.str s)]:=rfl
theorem sy {l:List PV}:au (.pv (.bz l))=[.pv (.bz l)]:=rfl
theorem sA {l:List PV}:au (.cw l)=[.cw l]:=rfl
theorem sB {l:List PV} {τ:Nat}:au (.own l τ)=[.own l τ]:=rfl
theorem qm {a b c:Nat} {d:Bool}:au (.aU a b c d)=[.aU a b c d]:=rfl
theorem sC {cs:List PV}:aB (.agg cs)=cs:=rfl
theorem sD {k:IntKind} {n:Int}:aB (.int k n)=[.int k n]:=rfl
theorem sE {s:List UInt8}:aB (.str s)=[.str s]:=rfl
theorem sF {l:List PV}:aB (.bz l)=[.bz l]:=rfl
theorem sG {b:Bool}:aA (.pv (.bool b))=true:=rfl
theorem vU {k:IntKind} {n:Int}:aA (.pv (.int k n))=true:=rfl
theorem vV {s:List UInt8}:aA (.pv (.str s))=true:=rfl
theorem vW {l:List PV}:aA (.pv (.bz l))=true:=rfl
theorem vX {l:List PV}:aA (.cw l)=true:=rfl
theorem vY {l:List PV} {τ:Nat}:aA (.own l τ)=true:=rfl
theorem sH {a b c:Nat} {d:Bool}:aA (.aU a b c d)=true:=rfl
theorem xZ {v:AV}:bm v=aA v:=rfl
theorem sI {a b:Nat}:a6 (.a0 a b)=true:=rfl
theorem vZ:a6.gg []=true:=rfl
theorem sJ {v:AV} {r:List AV}:a6.gg (v::r)=(a6 v && a6.gg r):=rfl
theorem v5 {l:List PV} {τ:Nat}:aY (.own l τ)=true:=rfl
theorem x4 {p:PV}:aY (.pv p)=true:=rfl
theorem v7 {l:List PV}:aY (.cw l)=true:=rfl
theorem sK {a b:Nat}:aY (.a0 a b)=true:=rfl
theorem sL {a b c:Nat} {d:Bool}:aY (.aU a b c d)=true:=rfl
theorem x5 {a:Nat} {c:List AV}:aY (.fn a c)=a6.gg c:=rfl
theorem v9 {c:List AV}:aY (.agg c)=dc c:=rfl
theorem sM:dc []=true:=rfl
theorem qn {v:AV} {r:List AV}:dc (v::r)=(gR v && dc r):=rfl
theorem x6 {p:PV}:gR (.pv p)=true:=rfl
theorem v_ {l:List PV}:gR (.cw l)=true:=rfl
theorem sN {a b c:Nat} {d:Bool}:gR (.aU a b c d)=true:=rfl
theorem wa:a_.eN []=true:=rfl
theorem sO {v:AV} {r:List AV}:a_.eN (v::r)=(a_ v && a_.eN r):=rfl
theorem x7 {p:PV}:a_ (.pv p)=true:=rfl
theorem wb {l:List PV}:a_ (.cw l)=true:=rfl
theorem sP {a b:Nat}:a_ (.a0 a b)=true:=rfl
theorem sQ {a b c:Nat} {d:Bool}:a_ (.aU a b c d)=true:=rfl
theorem wc {n:Nat} {p:PV}:aq n (.pv p)=true:=rfl
theorem sR {n:Nat} {l:List PV}:aq n (.cw l)=true:=rfl
theorem sS {n:Nat} {l:List PV} {τ:Nat}:aq n (.own l τ)=true:=rfl
theorem qo {n a b c:Nat} {d:Bool}:aq n (.aU a b c d)=decide (a<n):=rfl
theorem sT {n:Nat} {c:List AV}:aq n (.agg c)=aq.bn n c:=rfl
theorem qp {n:Nat}:aq.bn n []=true:=rfl
theorem oi {n:Nat} {v:AV} {r:List AV}:aq.bn n (v::r)=(aq n v && aq.bn n r):=rfl
theorem sU {n τ:Nat} {l:List PV}:cA n (.own l τ)=.own l (τ+n):=rfl
theorem we {n:Nat} {p:PV}:cA n (.pv p)=.pv p:=rfl
def zF (n:Nat) (p:List AV):Bool→AV
 | true=>.agg p
 | false=>.agg (p.map (hH n))
theorem oj {n:Nat} {p:List AV}:zF n p true=.agg p:=rfl
theorem qq {n a b c:Nat} {d:Bool}:cA n (.aU a b c d)=.aU a b c d:=rfl
theorem sV {n:Nat}:eP n []=[]:=rfl
theorem qt {n:Nat} {r:Sh}:eP n (none::r)=none::eP n r:=rfl
theorem qu {n:Nat} {cs:List AV} {r:Sh}:eP n (some cs::r)=some (cs.map (cA n))::eP n r:=rfl
theorem mJ {b:Bool}:aV.zeroCell (.bool b)=.pv (.bool b):=rfl
theorem om {k:IntKind} {n:Int}:aV.zeroCell (.int k n)=.pv (.int k n):=rfl
theorem oo {s:List UInt8}:aV.zeroCell (.str s)=.pv (.str s):=rfl
theorem oq:aV.zeroCell (.bz [])=.cw []:=rfl
theorem qv {l:List PV} {τ:Nat}:bA (.own l τ)=[.own l τ]:=rfl
theorem sW {p:PV}:bA (.pv p)=au (.pv p):=rfl
def Ao (cs:List AV):Option (List PV)→List AV
 | some ps=>ps.map .pv
 | none=>cs
theorem sX {cs:List AV} {ps:List PV}:Ao cs (some ps)=ps.map .pv:=rfl
theorem sY {cs:List AV}:Ao cs none=cs:=rfl
theorem BK {o:mi}:AK.key (.v o)=none:=rfl
theorem wg {k o s:Nat} {a:Bool}:AK.key (.dv k o s a)=some k:=rfl
theorem sZ {k o s:Nat}:AK.key (.dL k o s)=some k:=rfl
theorem wh {k:Nat} {z:List PV}:AK.key (.alloc k z)=some k:=rfl
theorem zG {k s:Nat}:AK.key (.box k s)=some k:=rfl
theorem wi {s:Nat} {a:Bool}:AK.key (.ck s a)=none:=rfl
theorem s4 {s:Nat}:AK.key (.d4 s)=none:=rfl
theorem x8 {s:Nat}:AK.key (.kV s)=none:=rfl
theorem s5 {s:List PV}:AK.key (.fR s)=none:=rfl
theorem wj {s b:Nat} {a:Bool} {z:List PV}:AK.key (.gO s b a z)=none:=rfl
theorem qw {s b:Nat} {ag:Bool}:AK.key (.cS s b ag)=none:=rfl
theorem s6 {s b:Nat}:AK.key (.append s b)=none:=rfl
theorem wk {g:Nat}:AK.key (.aQ g)=none:=rfl
theorem s7 {g:Nat}:AK.key (.eo g)=none:=rfl
theorem wm {g:Nat} {o:List Nat}:AK.key (.gQ g o)=none:=rfl
theorem wo:AK.jc.key=none:=rfl
theorem wq {c:CK} {ok:Bool} {z:PV}:(AK.gf c ok z).key=none:=rfl
theorem x9 {c:CK}:(AK.kW c).key=none:=rfl
theorem wt {sz bytes:Nat}:(AK.clone sz bytes).key=none:=rfl
theorem wu:AK.key .fq=none:=rfl
theorem bind_none {f:Nat→Option (List AV)}:(none:Option Nat).bind f=none:=rfl
theorem bind_some {f:Nat→Option (List AV)} {n:Nat}:(some n).bind f=f n:=rfl
theorem s8 {sz off:Nat} {cs:List AV}:bl true sz cs off=if off+sz≤cs.length then some (.agg ((cs.drop off).take sz)) else none:=rfl
theorem qx {off:Nat} {cs:List AV}:bl false 1 cs off=if off+1≤cs.length then cs[off]? else none:=rfl
theorem qy {sz:Nat} {cs:List PV}:cq true sz cs=if sz≤cs.length then some (.pv (.agg (cs.take sz))) else none:=rfl
theorem ot {c:PV} {cs:List PV}:cq false 1 (c::cs)=some (.pv c):=by simp [cq]
theorem qz {cs vs:List AV} {off:Nat}:aD cs off vs=cs.take off++vs++cs.drop (off+vs.length):=rfl
theorem Bc {x:AV}:aV .mv [x]=some x:=rfl
theorem x_ {c:Bool} {a b:AV}:aV .pick [.pv (.bool c),a,b]=if c=true then some a else some b:=by cases c<;>rfl
theorem zH {i:Nat} {vs:List AV}:aV (.ext i) [.j1 vs]=vs[i]?:=rfl
theorem s9 {off d o:Nat}:aV (.ga off) [.bJ d o]=some (.bJ d (o+off)):=rfl
theorem s_ {off d o:Nat}:aV (.ga off) [.a0 d o]=some (.a0 d (o+off)):=rfl
theorem ta {off:Nat} {cs:List PV}:aV (.ga off) [.cj cs]=some (.cj (cs.drop off)):=rfl
def ya (sz:Nat):Option PV→Option AV
 | some el=>if (aB el).length=sz then some (.cj (aB el)) else none
 | none=>none
theorem qA {sz:Nat} {el:PV}:ya sz (some el)=if (aB el).length=sz then some (.cj (aB el)) else none:=rfl
theorem wv {sz:Nat} {l:List PV} {k:IntKind} {i:Int}:aV (.ed sz) [.pv (.bz l),.pv (.int k i)]=if i<0 then none else ya sz l[i.toNat]?:=by
 show (if i<0 then none else _)=_
 split
 · rfl
 · show (match l[i.toNat]? with | some el=>_ | none=>_)=_
   cases l[i.toNat]?<;>rfl
theorem tc {sz b sz' n:Nat} {ag:Bool} {k:IntKind} {i:Int}:aV (.ed sz) [.aU b sz' n ag,.pv (.int k i)]=if i<0 then none else if sz=sz'∧i.toNat<n then some (.a0 b (i.toNat*sz)) else none:=rfl
def Cj:Option (List AV)→Option AV
 | some cs=>some (.agg cs)
 | none=>none
theorem wx {cs:List AV}:Cj (some cs)=some (.agg cs):=rfl
theorem wy {cs:List AV}:je cs [] []=some cs:=rfl
theorem td {cs:List AV} {off sz:Nat} {ps:List (Nat×Nat)} {v:AV} {vs:List AV}:je cs ((off,sz)::ps) (v::vs) =
   if (au v).length=sz∧off+sz≤cs.length∧(au v).all aA=true then je (aD cs off (au v)) ps vs else none:=rfl
def BL (sz:Nat):Option (List PV)→Option AV
 | some els=>if els.all (fun e=>(aB e).length == sz) then some (.cw els) else none
 | none=>none
theorem wz {sz:Nat} {els:List PV}:BL sz (some els)=if els.all (fun e=>(aB e).length == sz) then some (.cw els) else none:=rfl
theorem te {sz:Nat}:aV (.d3 sz) vals=BL sz (bZ [] vals):=by
 show (bZ [] vals).bind _=_
 cases bZ [] vals<;>rfl
theorem wA {sz:Nat} {ag:Bool} {cs:List PV}:aV (.eC sz ag) [.cj cs]=cq ag sz cs:=rfl
theorem zI {l:List PV}:aV .len [.pv (.bz l)]=some (.pv (.int .i64 l.length)):=rfl
theorem yb {l:List PV}:aV .len [.cw l]=some (.pv (.int .i64 l.length)):=rfl
theorem yc {l:List PV} {τ:Nat}:aV .len [.own l τ]=some (.pv (.int .i64 l.length)):=rfl
theorem yd {a b n:Nat} {d:Bool}:aV .len [.aU a b n d]=some (.pv (.int .i64 n)):=rfl
theorem ye {a b:Nat}:aV .kU [.a0 a b]=some (.a0 a b):=rfl
theorem Bd {k k':IntKind} {x y:Int}:aV .mn [.pv (.int k x),.pv (.int k' y)]=if k=k' then some (.pv (.int k (if y<x then y else x))) else none:=rfl
theorem Be {k k':IntKind} {x y:Int}:aV .mx [.pv (.int k x),.pv (.int k' y)]=if k=k' then some (.pv (.int k (if y > x then y else x))) else none:=rfl
theorem yf {k k':IntKind} {n:Int}:aV (.conv k) [.pv (.int k' n)]=some (.pv (.int k (k.wrap n))):=rfl
theorem zJ {b:Bool}:aV (.un .not) [.pv (.bool b)]=some (.pv (.bool !b)):=rfl
theorem zK {a b:Bool}:aV (.beq true) [.pv (.bool a),.pv (.bool b)]=some (.pv (.bool !(a == b))):=rfl
theorem zL {k:IntKind} {a b:Int}:aV (.bin .add) [.pv (.int k a),.pv (.int k b)]=some (.pv (.int k (k.wrap (a+b)))):=by simp [aV,cp]
theorem zM {k:IntKind} {a b:Int}:aV (.bin .sub) [.pv (.int k a),.pv (.int k b)]=some (.pv (.int k (k.wrap (a-b)))):=by simp [aV,cp]
theorem zN {k:IntKind} {a b:Int}:aV (.bin .quo) [.pv (.int k a),.pv (.int k b)]=if b=0 then none else some (.pv (.int k (k.wrap (a.tdiv b)))):=by simp [aV,cp]
theorem zO {k:IntKind} {a b:Int}:aV (.bin .rem) [.pv (.int k a),.pv (.int k b)]=if b=0 then none else some (.pv (.int k (a.tmod b))):=by simp [aV,cp]
theorem zP {k:IntKind} {a b:Int}:aV (.bin .eql) [.pv (.int k a),.pv (.int k b)]=some (.pv (.bool (a == b))):=by simp [aV,cp]
theorem zQ {k:IntKind} {a b:Int}:aV (.bin .neq) [.pv (.int k a),.pv (.int k b)]=some (.pv (.bool (a != b))):=by simp [aV,cp]
theorem zR {k:IntKind} {a b:Int}:aV (.bin .lss) [.pv (.int k a),.pv (.int k b)]=some (.pv (.bool (decide (a<b)))):=by simp [aV,cp]
theorem zS {k:IntKind} {a b:Int}:aV (.bin .geq) [.pv (.int k a),.pv (.int k b)]=some (.pv (.bool (decide (a≥b)))):=by simp [aV,cp]
theorem zT {a b:List UInt8}:aV (.bin .add) [.pv (.str a),.pv (.str b)]=if a.length+b.length≤9223372036854775807 then some (.pv (.str (a++b))) else none:=rfl
theorem yg {a b:List UInt8}:aV (.bin .eql) [.pv (.str a),.pv (.str b)]=some (.pv (.bool (a == b))):=rfl
theorem yh {a b:List UInt8}:aV (.bin .neq) [.pv (.str a),.pv (.str b)]=some (.pv (.bool (!(a == b)))):=rfl
theorem wB {sz:Nat} {lo hi mx:Bool} {x:AV} {rest:List AV}:aV (.slice false sz lo hi mx) (x::rest)=cT false sz lo hi mx (x::rest):=rfl
theorem tf {sz:Nat} {lo hi mx:Bool} {x:AV} {rest:List AV}:aV (.slice true sz lo hi mx) (x::rest)=cT true sz lo hi mx (x::rest):=rfl
def i5 (aw ks:Bool) (sh0 sh:Sh) (aa:al):Option (List AV)→Option (List AV×Sh×al)
 | some vs=>if (bf aw ks sh vs).all aY=true then
     some ((bR aa (bf aw ks sh vs) (if (bf aw ks sh vs).all (aq sh0.length)=true then (cU aw ks sh vs).take sh0.length else cU aw ks sh vs)).1,
       (bR aa (bf aw ks sh vs) (if (bf aw ks sh vs).all (aq sh0.length)=true then (cU aw ks sh vs).take sh0.length else cU aw ks sh vs)).2.1,
       (bR aa (bf aw ks sh vs) (if (bf aw ks sh vs).all (aq sh0.length)=true then (cU aw ks sh vs).take sh0.length else cU aw ks sh vs)).2.2.2) else none
 | none=>none
theorem qB {aw ks:Bool} {sh0:Sh} {vs:List AV}:i5 aw ks sh0 sh aa (some vs)=if (bf aw ks sh vs).all aY=true then
     some ((bR aa (bf aw ks sh vs) (if (bf aw ks sh vs).all (aq sh0.length)=true then (cU aw ks sh vs).take sh0.length else cU aw ks sh vs)).1,
       (bR aa (bf aw ks sh vs) (if (bf aw ks sh vs).all (aq sh0.length)=true then (cU aw ks sh vs).take sh0.length else cU aw ks sh vs)).2.1,
       (bR aa (bf aw ks sh vs) (if (bf aw ks sh vs).all (aq sh0.length)=true then (cU aw ks sh vs).take sh0.length else cU aw ks sh vs)).2.2.2) else none:=rfl
def fin (aw ks:Bool) (rs:List mj) (sh0:Sh):Option (aE×St)→Option (List AV×Sh×al)
 | some (.ret,st)=>i5 aw ks sh0 st.sh st.aa (cE st rs)
 | some (.normal,st)=>i5 aw ks sh0 st.sh st.aa (cE st rs)
 | _=>none
theorem zU {aw ks:Bool} {rs:List mj} {sh0:Sh} {st:St}:fin aw ks rs sh0 (some (.ret,st))=i5 aw ks sh0 st.sh st.aa (cE st rs):=rfl
theorem tg {aw ks:Bool} {rs:List mj} {sh0:Sh} {st:St}:fin aw ks rs sh0 (some (.normal,st))=i5 aw ks sh0 st.sh st.aa (cE st rs):=rfl
theorem wC {aw:Bool} {af:aK} {sh0:Sh} {r:Option (aE×St)}:finish aw af sh0 r=fin aw af.ks af.results sh0 r:=by
 cases r with
 | none=>rfl
 | some q=>
   obtain ⟨e,st⟩:=q
   cases e with
   | ret=>simp only [finish,fin];cases cE st af.results<;>simp [i5]
   | normal=>simp only [finish,fin];cases cE st af.results<;>simp [i5]
   | exit id=>simp [finish,fin]
theorem th {st:St}:cE st []=some []:=rfl
theorem qC {st:St} {r:mj} {rs:List mj}:cE st (r::rs)=qc (mM st r) (cE st rs):=by
 simp only [cE]
 cases mM st r<;>cases cE st rs<;>rfl
theorem zV {st:St} {n:Nat}:mM st (.t n)=look st.env n:=rfl
def ou (key sz:Nat) (ag:Bool) (mem:List (Nat×List AV)) (sh:Sh):Option AV→Option AV
 | some (.bJ d 0)=>ov key d sz ag (look mem key)
 | some (.a0 s 0)=>xn ag sz 0 sh[s]?
 | _=>none
where ov (key d sz:Nat) (ag:Bool):Option (List AV)→Option AV
 | some cs=>if d=key then bl ag sz cs 0 else none
 | none=>none
theorem oz {key sz d:Nat} {ag:Bool} {mem:List (Nat×List AV)}:ou key sz ag mem sh (some (.bJ d 0))=ou.ov key d sz ag (look mem key):=rfl
theorem oA {key sz d:Nat} {ag:Bool} {cs:List AV}:ou.ov key d sz ag (some cs)=if d=key then bl ag sz cs 0 else none:=rfl
theorem oB {vs:List AV} {ks:Bool}:bf false ks sh vs=vs.map (lf sh):=rfl
theorem qD {vs:List AV}:bf true false sh vs=vs.map (qY sh):=rfl
theorem wD {vs:List AV}:bf true true sh vs=vs:=rfl
theorem qE {vs:List AV} {ks:Bool}:cU false ks sh vs=cm sh vs:=rfl
theorem ti {vs:List AV}:cU true false sh vs=cm sh vs:=rfl
theorem yi {vs:List AV}:cU true true sh vs=sh:=rfl
def BM (v:AV):Option PV→AV
 | some p=>.pv p
 | none=>v
theorem wE {v:AV} {p:PV}:BM v (some p)=.pv p:=rfl
theorem yj {v:AV}:lf sh v=BM v (gX sh v):=rfl
theorem yk {l:List PV} {τ:Nat}:qY sh (.own l τ)=.own l τ:=rfl
theorem yl {cs:List AV}:qY sh (.agg cs)=.agg (cs.map (mq sh)):=rfl
theorem zW {p:PV}:qY sh (.pv p)=.pv p:=rfl
theorem ym {l:List PV}:mq sh (.cw l)=.cw l:=rfl
theorem yn {l:List PV} {τ:Nat}:mq sh (.own l τ)=.pv (.bz l):=rfl
theorem yo {k:IntKind} {n:Int}:mq sh (.pv (.int k n))=.pv (.int k n):=rfl
theorem yp {s:List UInt8}:mq sh (.pv (.str s))=.pv (.str s):=rfl
theorem yq {l:List PV}:mq sh (.pv (.bz l))=.pv (.bz l):=rfl
theorem tj {vs:List AV}:cm sh vs=kill sh (vs.flatMap da):=rfl
theorem yt:kill sh []=sh:=rfl
theorem wF {b:Nat} {l:List Nat}:kill sh (b::l)=kill (sh.set b none) l:=rfl
theorem wG {a b c:Nat} {d:Bool}:da (.aU a b c d)=[a]:=rfl
theorem zX {p:PV}:da (.pv p)=[]:=rfl
theorem yu {l:List PV} {τ:Nat}:da (.own l τ)=[]:=rfl
theorem yv {l:List PV}:da (.cw l)=[]:=rfl
def nb:AV→List Nat
 | .aU b _ _ _=>[b]
 | _=>[]
theorem yw {cs:List AV}:da (.agg cs)=cs.flatMap nb:=by
 show cs.flatMap _=cs.flatMap nb
 congr 1
theorem tl {a b c:Nat} {d:Bool}:nb (.aU a b c d)=[a]:=rfl
theorem yx {p:PV}:nb (.pv p)=[]:=rfl
theorem wH {l:List PV} {τ:Nat}:nb (.own l τ)=[]:=rfl
theorem wI {l:List PV}:nb (.cw l)=[]:=rfl
theorem tm:dD []=some []:=rfl
theorem qF {p:PV} {r:List AV}:dD (.pv p::r)=qc (some p) (dD r):=by
 simp only [dD]
 cases dD r<;>rfl
def oC:Option (List AV×Sh×al)→Option (List PV)
 | some (rs,_,_)=>dD rs
 | none=>none
theorem oD {rs:List AV} {t:al}:oC (some (rs,sh,t))=dD rs:=rfl
theorem fh {g:Nat} {af:aK} {x:List PV} (hg:AP g=some af) (h1:x.length=af.nparams) (h2:af.nparams≤af.ntmps) (hp:af.kX=none:=by rfl) :
   (bQ AP).p g x=oC (fin false af.ks af.results [] (cl AP af.body ⟨bh 0 (x.map .pv),[],[],[]⟩)):=by
 rw [BE hg hp h1 (by omega)]
 unfold lU oC
 rw [wC]
 cases fin false af.ks af.results [] (cl AP af.body ⟨bh 0 (x.map .pv),[],[],[]⟩)<;>rfl
end
attribute [simp] va pZ rH e8 uT rG uU xo uV xp uW uX uY zu uZ xq u_ uJ pU uK pV nX uL rB nY uM rC uN rD n_ rE xl zs BF zt xm uQ uR pX rF uS AU d8 eh e7 ik pY gL ei fH iC iB fJ gz vg fK vh vi xC vu vv rR p_ vw lY rS vz xE xF rT qa xG vA vB rU xH rV qb rW rX qd zz zA xI rY qe vC zB A' zC zD vD rZ qf qg og xJ vE xK xL xM xN xO vF r5 vG r6 r7 vH r9 vJ r_ vK vL xQ sa sb sd xS zE qi sg kG jU sj sk kH jV sl vM xU vN sq sr xX look_nil vP xY vQ vR vS vT cQ su oh mI sv qk ql sw sx sy sA sB qm sC sD sE sF sG vU vV vW vX vY sH xZ sI vZ sJ v5 x4 v7 sK sL x5 v9 wa sO x7 wb sP sQ wc sR sS qo sT qp oi sU we qq sV qt qu mJ om oo oq qv sW sX sY BK wg sZ wh zG wi s4 x8 s5 wj s6 wk s7 wm wu b2sO_some zy bind_none bind_some s8 qx qy ot qz Bc x_ zH s9 s_ ta qA wv tc wx wy td wz te wA zI yb yc yd ye Bd Be yf zJ zK zL zM zN zO zP zQ zR zS zT yg yh wB tf qB zU tg th qC zV oz oA oB qD wE yj yk yl zW ym yn yo yp yq tj yt wF wG zX yu yv yw tl yx wH wI tm qF oD se sf ss zw gA e9 iD iT vb mH lW vc na wo wq x9 wt vd vf qh sn qj xW vO sM qn x6 v_ sN oj wD qE ti yi vj rI gC p0 xv xw zx xz vl vm vn vk rJ rK qw vp p6 rP p7 rL gB rM vq rN vr eJ xB vt rO p9 rQ AS zk zm AO xh List.getElem?_cons_zero
theorem cX {n:Int} (h1:-9223372036854775808≤n) (h2:n≤9223372036854775807):IntKind.i64.wrap n=n:=by
 simp [IntKind.wrap,IntKind.bits,IntKind.signed]
 omega
end Go.Ab.Ev
