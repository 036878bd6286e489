import Derived.Test.YtcjggpmnbcfedaaGreatDoorAbLim
/-
  Rules for running slim code by the simplifier: each is an equation on constructors.
-/
set_option linter.unusedVariables false
set_option linter.unusedSimpArgs false
set_option linter.unnecessarySimpa false
set_option maxRecDepth 100000
set_option maxHeartbeats 8000000
namespace Go.Ab.Ev
section
variable {AP:Nat→Option aD} {O:eu}
noncomputable def branch (AP:Nat→Option aD) (o:Option AV) (a b:aA) (st:St):Option (bo×St):=
 match o with
 | some (.pv (.bool t))=>if t=true then cl AP a st else cl AP b st
 | _=>none
theorem FU {c:fF} {a b:aA} {st:St}:cl AP (.cond c a b) st=branch AP (ir st.env c) a b st:=by
 unfold branch
 split
 · rename_i t h
   rw [MU h]
 · rename_i h
   unfold cl
   refine sK fun k=>?_
   simp only [dk]
theorem yV {t:Bool} {a b:aA} {st:St}:branch AP (some (.pv (.bool t))) a b st=if t=true then cl AP a st else cl AP b st:=rfl
def sN (live:List Nat):Option St→Option (bo×St)
 | some st=>some (.normal,restrict live st)
 | none=>none
theorem FV {ops:List dK} {live:List Nat} {st:St}:cl AP (.bw ops live) st=sN live (bE (aL AP) ops st):=by
 rw [PR]
 cases bE (aL AP) ops st<;>rfl
theorem yW {live:List Nat} {st:St}:sN live (some st)=some (.normal,restrict live st):=rfl
theorem Bp {live:List Nat} {c:Prop} [Decidable c] {x y:Option St}:sN live (if c then x else y)=if c then sN live x else sN live y:=by split<;>rfl
theorem wF {f:St→Option (bo×St)} {st:St}:after f (some (.normal,st))=f st:=rfl
theorem FW {f:St→Option (bo×St)} {st:St}:after f (some (.ret,st))=some (.ret,st):=rfl
theorem Bq {f:St→Option (bo×St)} {st:St} {id:Nat}:after f (some (.exit id,st))=some (.exit id,st):=rfl
theorem FX {f:St→Option (bo×St)} {c:Prop} [Decidable c] {x y:Option (bo×St)}:after f (if c then x else y)=if c then after f x else after f y:=by split<;>rfl
theorem wG {id:Nat} {st:St}:leave id (some (.normal,st))=some (.normal,st):=rfl
theorem FY {id:Nat} {st:St}:leave id (some (.ret,st))=some (.ret,st):=rfl
theorem Br {id id':Nat} {st:St}:leave id (some (.exit id',st))=if id'=id then some (.normal,st) else some (.exit id',st):=rfl
theorem FZ {id:Nat} {c:Prop} [Decidable c] {x y:Option (bo×St)}:leave id (if c then x else y)=if c then leave id x else leave id y:=by split<;>rfl
def mR (O:eu) (l:List dK):Option St→Option St
 | some st=>bE O l st
 | none=>none
theorem F1 {st:St}:bE O [] st=some st:=rfl
theorem kX {o:dK} {l:List dK} {st:St}:bE O (o::l) st=mR O l (eo O o st):=by
 simp only [bE]
 cases eo O o st<;>rfl
theorem Bs {d:Option Nat} {args:List fF} {op:AK} {l:List dK} {st:St}:bE O (⟨d,none,args,op⟩::l) st=mR O l (eo O ⟨d,none,args,op⟩ st):=kX
theorem wH {l:List dK} {st:St}:mR O l (some st)=bE O l st:=rfl
theorem yX {l:List dK} {c:Prop} [Decidable c] {x y:Option St}:mR O l (if c then x else y)=if c then mR O l x else mR O l y:=by split<;>rfl
def sO (d k:Option Nat) (env:List (Nat×AV)) (mem:List (Nat×List AV)):Option Out→Option St
 | some out=>some { env:=gp env d out.val,mem:=eX mem k out.cells,sh:=out.sh,ae:=out.ae }
 | none=>none
def Js (O:eu) (op:AK) (vals:Option (List AV)) (cells:Option (List AV)) (sh:Sh) (ae:aH):Option Out:=
 match vals with
 | some vals=>exec O op vals cells sh ae
 | none=>none
theorem Bt {d:Option Nat} {args:List fF} {op:AK} {env:List (Nat×AV)} {mem:List (Nat×List AV)} {sh:Sh} {ae:aH} :
   eo O ⟨d,none,args,op⟩ ⟨env,mem,sh,ae⟩=sO d op.key env mem (Js O op (ew env args) (op.key.bind (look mem)) sh ae):=by
 simp only [eo,f_]
 cases ew env args with
 | none=>rfl
 | some vals=>
   dsimp only [Js]
   cases exec O op vals (op.key.bind (look mem)) sh ae<;>rfl
def sP (t:Nat) (b:Bool) (o:dK):dK:=
 match o.guard with
 | some (t',b')=>if t'=t then (if b'=b then { o with guard:=none } else ⟨o.dst,none,[.c .un],.v .mv⟩) else o
 | none=>o
def F3 (t:Nat):List dK→Bool
 | []=>true
 | o::l=>(o.dst != some t) && F3 t l
theorem mS {α:Type} {t t':Nat} {v:α}:∀{l:List (Nat×α)},look (dt l t v) t'=if t'=t then some v else look l t'
 | []=>by
   simp only [dt,look]
   by_cases h:t'=t
   · subst h;simp
   · rw [if_neg (fun e=>h e.symm),if_neg h]
 | (k,u)::r=>by
   simp only [dt]
   by_cases hk:k=t
   · subst hk
     simp only [if_true,look]
     by_cases h:t'=k
     · subst h;simp
     · rw [if_neg (fun e=>h e.symm),if_neg h,if_neg (fun e=>h e.symm)]
   · rw [if_neg hk]
     simp only [look,mS (l:=r)]
     by_cases h:k=t'
     · subst h;simp [hk]
     · rw [if_neg h,if_neg h]
theorem pQ {α:Type} {t:Nat} {v:α}:∀{l:List (Nat×α)},look l t=some v→dt l t v=l
 | [],h=>by simp [look] at h
 | (k,u)::r,h=>by
   simp only [look] at h
   simp only [dt]
   split at h
   · rename_i e;cases h;rw [if_pos e]
   · rename_i e;rw [if_neg e,pQ h]
theorem F4 {o:dK} {st st':St} {t:Nat} {v:AV} (hd:(o.dst != some t)=true) (h:look st.env t=some v) (e:eo O o st=some st'):look st'.env t=some v:=by
 have key:∀x,look (gp st.env o.dst x) t=some v:=by
   intro x
   cases hdd:o.dst with
   | none=>exact h
   | some d=>
     rw [hdd] at hd
     simp only [gp,mS]
     rw [if_neg (by intro e;subst e;simp at hd)]
     exact h
 simp only [eo] at e
 split at e
 · cases e
 · cases e;exact key _
 · split at e
   · cases e
   · split at e
     · cases e
     · cases e;exact key _
theorem F5 {o:dK} {st:St} {t:Nat} {b:Bool} (h:look st.env t=some (.pv (.bool b))):eo O o st=eo O (sP t b o) st:=by
 obtain ⟨d,g,args,op⟩:=o
 cases g with
 | none=>rfl
 | some p=>
   obtain ⟨t',b'⟩:=p
   simp only [sP]
   by_cases ht:t'=t
   · subst ht
     rw [if_pos rfl]
     by_cases hb:b'=b
     · subst hb
       rw [if_pos rfl]
       simp only [eo,f_,h,beq_self_eq_true]
     · rw [if_neg hb]
       have hb':(b == b')=false:=by simpa using fun e=>hb e.symm
       simp only [eo,f_,h,hb']
       obtain ⟨env,mem,sh,ae⟩:=st
       rfl
   · rw [if_neg ht]
theorem nO {t:Nat} {b:Bool}:∀{l:List dK} {st:St},F3 t l=true→look st.env t=some (.pv (.bool b))→bE O l st=bE O (l.map (sP t b)) st
 | [],_,_,_=>rfl
 | o::l,st,hn,h=>by
   simp only [F3,Bool.and_eq_true] at hn
   rw [List.map_cons,kX,kX,←F5 h]
   cases e:eo O o st with
   | none=>rfl
   | some st'=>exact nO hn.2 (F4 hn.1 h e)
theorem yY {d:Option Nat} {t:Nat} {b:Bool} {args:List fF} {op:AK} {l:List dK} {env:List (Nat×AV)} {mem:List (Nat×List AV)} {sh:Sh} {ae:aH} {c:Bool} (h:look env t=some (.pv (.bool c))) (hn:F3 t (⟨d,some (t,b),args,op⟩::l)=true) :
   bE O (⟨d,some (t,b),args,op⟩::l) ⟨env,mem,sh,ae⟩ =
     if c=true then bE O ((⟨d,some (t,b),args,op⟩::l).map (sP t true)) ⟨dt env t (.pv (.bool true)),mem,sh,ae⟩
     else bE O ((⟨d,some (t,b),args,op⟩::l).map (sP t false)) ⟨dt env t (.pv (.bool false)),mem,sh,ae⟩:=by
 cases c with
 | true=>rw [if_pos rfl,pQ h];exact nO hn h
 | false=>rw [if_neg (by simp),pQ h];exact nO hn h
theorem wI {d:Option Nat} {t:Nat} {b:Bool} {args:List fF} {op:AK} {l:List dK} {env:List (Nat×AV)} {mem:List (Nat×List AV)} {sh:Sh} {ae:aH} (h:look env t=some .un) :
   bE O (⟨d,some (t,b),args,op⟩::l) ⟨env,mem,sh,ae⟩=bE O l ⟨gp env d .un,mem,sh,ae⟩:=by
 rw [kX]
 simp only [eo,f_,h]
 rfl
noncomputable def gd (O:eu) (t:Nat) (ops:List dK) (d:Option Nat) (l:List dK) (env:List (Nat×AV)) (mem:List (Nat×List AV)) (sh:Sh) (ae:aH):Option AV→Option St
 | some (.pv (.bool c))=>if F3 t ops=true then (if c=true then bE O (ops.map (sP t true)) ⟨dt env t (.pv (.bool true)),mem,sh,ae⟩
     else bE O (ops.map (sP t false)) ⟨dt env t (.pv (.bool false)),mem,sh,ae⟩) else bE O ops ⟨env,mem,sh,ae⟩
 | some .un=>bE O l ⟨gp env d .un,mem,sh,ae⟩
 | _=>bE O ops ⟨env,mem,sh,ae⟩
theorem Jt {d:Option Nat} {t:Nat} {b:Bool} {args:List fF} {op:AK} {l:List dK} {env:List (Nat×AV)} {mem:List (Nat×List AV)} {sh:Sh} {ae:aH} :
   bE O (⟨d,some (t,b),args,op⟩::l) ⟨env,mem,sh,ae⟩=gd O t (⟨d,some (t,b),args,op⟩::l) d l env mem sh ae (look env t):=by
 unfold gd
 split
 · rename_i c h
   split
   · rename_i hn;exact yY h hn
   · rfl
 · rename_i h;exact wI h
 · rfl
theorem MV {t:Nat} {ops:List dK} {d:Option Nat} {l:List dK} {env:List (Nat×AV)} {mem:List (Nat×List AV)} {sh:Sh} {ae:aH} {c:Bool}:gd O t ops d l env mem sh ae (some (.pv (.bool c))) =
   if F3 t ops=true then (if c=true then bE O (ops.map (sP t true)) ⟨dt env t (.pv (.bool true)),mem,sh,ae⟩
     else bE O (ops.map (sP t false)) ⟨dt env t (.pv (.bool false)),mem,sh,ae⟩) else bE O ops ⟨env,mem,sh,ae⟩:=rfl
theorem Rl {t:Nat} {ops:List dK} {d:Option Nat} {l:List dK} {env:List (Nat×AV)} {mem:List (Nat×List AV)} {sh:Sh} {ae:aH}:gd O t ops d l env mem sh ae (some .un)=bE O l ⟨gp env d .un,mem,sh,ae⟩:=rfl
theorem MW {t:Nat}:F3 t []=true:=rfl
theorem Ju {t d:Nat} {g:Option (Nat×Bool)} {args:List fF} {op:AK} {l:List dK}:F3 t (⟨some d,g,args,op⟩::l)=(!(decide (d=t)) && F3 t l):=by
 simp only [F3]
 congr 1
theorem Jv {t:Nat} {g:Option (Nat×Bool)} {args:List fF} {op:AK} {l:List dK}:F3 t (⟨none,g,args,op⟩::l)=F3 t l:=by
 simp [F3]
theorem F6 {t:Nat} {b:Bool} {d:Option Nat} {args:List fF} {op:AK}:sP t b ⟨d,none,args,op⟩=⟨d,none,args,op⟩:=rfl
theorem F7 {t t':Nat} {b b':Bool} {d:Option Nat} {args:List fF} {op:AK}:sP t b ⟨d,some (t',b'),args,op⟩=if t'=t then (if b'=b then ⟨d,none,args,op⟩ else ⟨d,none,[.c .un],.v .mv⟩) else ⟨d,some (t',b'),args,op⟩:=rfl
theorem yZ {d k:Option Nat} {env:List (Nat×AV)} {mem:List (Nat×List AV)} {v:AV} {cs:Option (List AV)} {sh:Sh} {ae:aH} :
   sO d k env mem (some ⟨v,cs,sh,ae⟩)=some ⟨gp env d v,eX mem k cs,sh,ae⟩:=rfl
theorem Bu {d k:Option Nat} {env:List (Nat×AV)} {mem:List (Nat×List AV)} {c:Prop} [Decidable c] {x y:Option Out}:sO d k env mem (if c then x else y)=if c then sO d k env mem x else sO d k env mem y:=by split<;>rfl
theorem Bv {op:AK} {vals:List AV} {cells:Option (List AV)} {sh:Sh} {ae:aH}:Js O op (some vals) cells sh ae=exec O op vals cells sh ae:=rfl
def Jw (sh:Sh) (ae:aH):Option AV→Option Out
 | some x=>some ⟨x,none,sh,ae⟩
 | none=>none
theorem F8 {sh:Sh} {ae:aH} {x:AV}:Jw sh ae (some x)=some ⟨x,none,sh,ae⟩:=rfl
variable {vals:List AV} {cells:Option (List AV)} {sh:Sh} {ae:aH}
theorem PT {o:ua}:exec O (.v o) vals cells sh ae=Jw sh ae (bW o vals):=by
 show (bW o vals).map _=_
 cases bW o vals<;>rfl
theorem iB {key off sz d o:Nat} {ag:Bool} {cs:List AV}:exec O (.bh key off sz ag) [.aB d o] (some cs) sh ae=if d=key∧o=off then Jw sh ae (cA ag sz cs off) else none:=by
 show (if d=key∧o=off then (cA ag sz cs off).map _ else none)=_
 cases cA ag sz cs off<;>rfl
theorem iL {key off sz d o:Nat} {v:AV} {cs:List AV}:exec O (.cY key off sz) [.aB d o,v] (some cs) sh ae =
   if d=key∧o=off∧(bg v).length=sz∧(bg v).all bm=true then if off+sz≤cs.length then some ⟨.un,some (bn cs off (bg v)),sh,ae⟩ else none else none:=rfl
theorem jt {key:Nat} {zero:List PV}:exec O (.alloc key zero) [] none sh ae=some ⟨.aB key 0,some (zero.map bW.zeroCell),sh,ae⟩:=rfl
theorem l6 {key sz:Nat} {v:AV}:exec O (.box key sz) [v] none sh ae=if (bg v).length=sz∧(bg v).all bm=true then some ⟨.aB key 0,some (bg v),sh,ae⟩ else none:=rfl
theorem y1 {sz:Nat} {ag:Bool} {cs:List PV}:exec O (.bf sz ag) [.dG cs] cells sh ae=Jw sh ae (da ag sz cs):=by
 show (da ag sz cs).map _=_
 cases da ag sz cs<;>rfl
def sQ (ag:Bool) (sz off:Nat):Option (Option (List AV))→Option AV
 | some (some cs)=>if c_ cs=true then none else cA ag sz cs off
 | _=>none
theorem qM {ag:Bool} {sz off:Nat} {cs:List AV}:sQ ag sz off (some (some cs))=if c_ cs=true then none else cA ag sz cs off:=rfl
theorem y3 {sz b off:Nat} {ag:Bool}:exec O (.bf sz ag) [.aZ b off] cells sh ae=Jw sh ae (sQ ag sz off sh[b]?):=by
 show (match sh[b]? with | some (some cs)=>if c_ cs=true then none else (cA ag sz cs off).map _ | _=>none)=_
 split
 · rename_i cs h
   rw [h,qM]
   split
   · rfl
   · cases cA ag sz cs off<;>rfl
 · rename_i h
   unfold sQ
   split
   · rename_i cs e;exact absurd e (h cs)
   · rfl
def oW (b off sz:Nat) (vs:List AV) (sh:Sh) (ae:aH):Option (Option (List AV))→Option Out
 | some (some cs)=>if c_ cs=false∧vs.length=sz∧off+sz≤cs.length∧vs.all dv=true∧vs.all (aM (b+1))=true then some ⟨.un,none,sh.set b (some (bn cs off vs)),ae⟩ else none
 | _=>none
theorem kY {b off sz:Nat} {vs cs:List AV}:oW b off sz vs sh ae (some (some cs))=if c_ cs=false∧vs.length=sz∧off+sz≤cs.length∧vs.all dv=true∧vs.all (aM (b+1))=true then some ⟨.un,none,sh.set b (some (bn cs off vs)),ae⟩ else none:=rfl
theorem iM {sz b off:Nat} {v:AV}:exec O (.cZ sz) [.aZ b off,v] cells sh ae=oW b off sz (cB v) sh ae sh[b]?:=by
 show (match sh[b]? with | some (some cs)=>_ | _=>none)=_
 split
 · rename_i cs h
   rw [h,kY]
 · rename_i h
   unfold oW
   split
   · rename_i cs e;exact absurd e (h cs)
   · rfl
theorem jR {sz b off:Nat} {v:AV}:exec O (.kG sz) [.aZ b off,v] cells sh ae=oW b off sz (bg v) sh ae sh[b]?:=by
 show (match sh[b]? with | some (some cs)=>_ | _=>none)=_
 split
 · rename_i cs h
   rw [h,kY]
 · rename_i h
   unfold oW
   split
   · rename_i cs e;exact absurd e (h cs)
   · rfl
theorem mJ {sz:Nat} {v:AV}:exec O (.nA sz) [v] cells sh ae=if (cB v).length=sz∧(cB v).all dv=true∧(cB v).all (aM sh.length)=true then some ⟨.aZ sh.length 0,none,sh++[some (cB v)],ae⟩ else none:=rfl
theorem mK {sz:Nat} {v:AV}:exec O (.vW sz) [v] cells sh ae=if (bg v).length=sz∧(bg v).all dv=true∧(bg v).all (aM sh.length)=true then some ⟨.aZ sh.length 0,none,sh++[some (bg v)],ae⟩ else none:=rfl
theorem jS {zero:List PV}:exec O (.jX zero) [] cells sh ae=some ⟨.aZ sh.length 0,none,sh++[some (zero.map bW.zeroCell)],ae⟩:=rfl
theorem kM {sz bytes:Nat} {ag:Bool} {zero:List PV} {k k':IntKind} {n n':Int}:exec O (.iY sz bytes ag zero) [.pv (.int k n),.pv (.int k' n')] cells sh ae =
   if n=n'∧0≤n∧n≤9223372036854775807∧n*bytes≤140737488355328∧zero.length=sz then some ⟨.bz sh.length sz n.toNat ag,none,sh++[some ((List.replicate n.toNat (zero.map .pv)).flatten)],ae⟩ else none:=rfl
theorem jv {key sz bytes:Nat} {zero:List PV} {k k':IntKind} {n n':Int}:exec O (.kr key sz bytes zero) [.pv (.int k n),.pv (.int k' n')] none sh ae =
   if n=n'∧0≤n∧n≤9223372036854775807∧n*bytes≤140737488355328∧zero.length=sz then some ⟨.ji key n.toNat,some ((List.replicate n.toNat (zero.map .pv)).flatten),sh,ae⟩ else none:=rfl
theorem Bw {aQ ts:aH} {d n:Nat}:bX aQ ts (.ji d n)=(.ji d n,aQ,ts):=rfl
theorem Bx {live:List Nat} {d n:Nat}:dR live (.ji d n)=live.contains d:=rfl
theorem By {d n:Nat}:bP (.ji d n)=false:=rfl
theorem Jy {b o b' o':Nat}:apart (some (.aZ b o)) (some (.aZ b' o'))=(b != b'):=rfl
def Uu (ts:List Nat) (st:St):Option AV→St
 | some (.bz b _ _ _)=>match st.sh[b]? with
   | some (some cells)=>if c_ cells=false then { st with env:=A5 b st.sh.length ts st.env,sh:=st.sh.set b none++[some cells] } else st
   | _=>st
 | _=>st
def Uv (r:List Nat) (st:St):Option AV→St
 | some (.bz b _ _ _)=>match st.sh[b]? with
   | some (some cells)=>if c_ cells=false∧(eP (.agg cells)).contains b=false then
       match d3 st.sh cells with
       | some ps=>oB r { st with sh:=(dY st.sh [.agg cells]).set b (some (ps.map .pv)) }
       | none=>oB r st
     else oB r st
   | _=>oB r st
 | _=>oB r st
def Tx (ae:aH):Option (AV×Sh×aH)→Option Out
 | some (v,sh',ts)=>some ⟨v,none,sh',ts⟩
 | none=>none
theorem F9 {v:AV} {sh':Sh} {ts:aH}:Tx ae (some (v,sh',ts))=some ⟨v,none,sh',ts⟩:=rfl
theorem Jz:c_ []=false:=rfl
theorem MX {p:PV} {r:List AV}:c_ (.pv p::r)=false:=rfl
theorem JA {l:List PV} {r:List AV}:c_ (.bJ l::r)=false:=rfl
theorem JB {l:List PV} {τ:Nat} {r:List AV}:c_ (.own l τ::r)=false:=rfl
theorem F' {b o:Nat} {r:List AV}:c_ (.aZ b o::r)=false:=rfl
theorem Ga {b z n:Nat} {ag:Bool} {r:List AV}:c_ (.bz b z n ag::r)=false:=rfl
theorem MY {g:Nat} {c r:List AV}:c_ (.fn g c::r)=false:=rfl
theorem Gb {r:List AV}:c_ (.dS::r)=false:=rfl
theorem Gc {s:Nat} {r:List AV}:c_ (.dj s::r)=false:=rfl
theorem Gd {kvs:List (PV×PV)} {r:List AV}:c_ (.dQ kvs::r)=true:=rfl
theorem kN:exec O .ot [] cells sh ae=some ⟨.dj sh.length,none,sh++[some [.dQ []]],ae⟩:=rfl
def Rm (ok:Bool) (z:PV) (sh:Sh) (ae:aH):Option (Option PV)→Option Out
 | some r=>some ⟨jH ok z r,none,sh,ae⟩
 | none=>none
theorem wJ {z:PV} {r:Option PV}:jH true z r=.nf [.pv (r.getD z),.pv (.bool r.isSome)]:=rfl
theorem uu {z:PV} {r:Option PV}:jH false z r=.pv (r.getD z):=rfl
def JC (c:CK) (ok:Bool) (z k:PV) (sh:Sh) (ae:aH):Option (Option (List AV))→Option Out
 | some (some [.dQ kvs])=>Rm ok z sh ae (jZ c kvs k)
 | _=>none
theorem sR {c:CK} {ok:Bool} {z k:PV} {kvs:List (PV×PV)}:JC c ok z k sh ae (some (some [.dQ kvs]))=Rm ok z sh ae (jZ c kvs k):=rfl
theorem jw {c:CK} {ok:Bool} {z k:PV} {s:Nat}:exec O (.ku c ok z) [.dj s,.pv k] cells sh ae=JC c ok z k sh ae sh[s]?:=by
 show (match sh[s]? with | some (some [.dQ kvs])=>(jZ c kvs k).map _ | _=>none)=_
 split
 · rename_i kvs h
   rw [h,sR]
   cases jZ c kvs k<;>rfl
 · rename_i h
   unfold JC
   split
   · rename_i kvs e;exact absurd e (h kvs)
   · rfl
def lL (s:Nat) (sh:Sh) (ae:aH):Option (List (PV×PV))→Option Out
 | some kvs=>some ⟨.un,none,sh.set s (some [.dQ kvs]),ae⟩
 | none=>none
theorem Ge {s:Nat} {kvs:List (PV×PV)}:lL s sh ae (some kvs)=some ⟨.un,none,sh.set s (some [.dQ kvs]),ae⟩:=rfl
def PU (c:CK) (s:Nat) (k:PV) (sh:Sh) (ae:aH):Option (Option (List AV))→Option PV→Option Out
 | some (some [.dQ kvs]),some p=>lL s sh ae (lT c kvs k p)
 | _,_=>none
theorem va {c:CK} {s:Nat} {k p:PV} {kvs:List (PV×PV)}:PU c s k sh ae (some (some [.dQ kvs])) (some p)=lL s sh ae (lT c kvs k p):=rfl
theorem mL {c:CK} {k:PV} {s:Nat} {v:AV}:exec O (.rR c) [.dj s,.pv k,v] cells sh ae=PU c s k sh ae sh[s]? (dL [] v):=by
 show (match sh[s]?,dL [] v with | some (some [.dQ kvs]),some p=>(lT c kvs k p).map _ | _,_=>none)=_
 split
 · rename_i kvs p h1 h2
   rw [h1,h2,va]
   cases lT c kvs k p<;>rfl
 · rename_i h
   unfold PU
   split
   · rename_i kvs p e1 e2;exact absurd e2 (h kvs p e1)
   · rfl
def PW (neg:Bool):Option Bool→Option AV
 | some b=>some (.pv (.bool (if neg then !b else b)))
 | none=>none
theorem Gf {neg b:Bool}:PW neg (some b)=some (.pv (.bool (if neg then !b else b))):=rfl
def Tz (cs:List CK) (neg:Bool):Option PV→Option PV→Option AV
 | some (.agg ps),some (.agg qs)=>PW neg (ei cs ps qs)
 | _,_=>none
theorem Gg {cs:List CK} {neg:Bool} {ps qs:List PV}:Tz cs neg (some (.agg ps)) (some (.agg qs))=PW neg (ei cs ps qs):=rfl
def Gi (sh:Sh):Option (AV×aH)→Option Out
 | some (v,ts)=>some ⟨v,none,sh,ts⟩
 | none=>none
theorem Gj {v:AV} {ts:aH}:Gi sh (some (v,ts))=some ⟨v,none,sh,ts⟩:=rfl
theorem JD {c:Prop} [Decidable c] {x y:Option (AV×aH)}:Gi sh (if c then x else y)=if c then Gi sh x else Gi sh y:=by split<;>rfl
theorem jT {sz bytes:Nat} {s x:AV}:exec O (.append sz bytes) [s,x] cells sh ae=Gi sh (cE sz bytes s x ae):=by
 show (cE sz bytes s x ae).map _=_
 cases cE sz bytes s x ae<;>rfl
theorem nE {sz bytes:Nat} {x:AV}:exec O (.clone sz bytes) [x] cells sh ae=Gi sh (cE sz bytes (.bJ []) x ae):=by
 show (cE sz bytes (.bJ []) x ae).map _=_
 cases cE sz bytes (.bJ []) x ae<;>rfl
def Ey (sz bytes:Nat) (s:AV) (ae:aH):Option (List PV)→Option (AV×aH)
 | some xs=>if bF sz xs=true then
   match s with
   | .bJ l=>if xs.isEmpty=true then some (.bJ l,ae) else if bF sz l=true∧(l.length+xs.length)*bytes≤140737488355328 then
       some (.own (l++xs) ae.length,ae++[(l++xs).length]) else none
   | .own l τ=>if ae[τ]?=some l.length∧bF sz l=true∧(l.length+xs.length)*bytes≤140737488355328 then
       some (.own (l++xs) τ,ae.set τ (l++xs).length) else none
   | _=>none
   else none
 | none=>none
theorem uv {sz bytes:Nat} {s x:AV}:cE sz bytes s x ae=Ey sz bytes s ae (cN x):=by
 unfold cE Ey
 cases cN x<;>rfl
theorem Gk {sz bytes:Nat} {l xs:List PV}:Ey sz bytes (.bJ l) ae (some xs)=if bF sz xs=true then if xs.isEmpty=true then some (.bJ l,ae) else if bF sz l=true∧(l.length+xs.length)*bytes≤140737488355328 then
       some (.own (l++xs) ae.length,ae++[(l++xs).length]) else none else none:=rfl
theorem Gl {sz bytes τ:Nat} {l xs:List PV}:Ey sz bytes (.own l τ) ae (some xs)=if bF sz xs=true then if ae[τ]?=some l.length∧bF sz l=true∧(l.length+xs.length)*bytes≤140737488355328 then
       some (.own (l++xs) τ,ae.set τ (l++xs).length) else none else none:=rfl
def Gm (ae:aH):Option (AV×Sh)→Option Out
 | some (v,sh)=>some ⟨v,none,sh,ae⟩
 | none=>none
theorem Gn {v:AV} {sh:Sh}:Gm ae (some (v,sh))=some ⟨v,none,sh,ae⟩:=rfl
theorem JE {c:Prop} [Decidable c] {x y:Option (AV×Sh)}:Gm ae (if c then x else y)=if c then Gm ae x else Gm ae y:=by split<;>rfl
def JF (sz bytes:Nat) (ag:Bool) (s:AV) (sh:Sh) (ae:aH):Option (List PV)→Option Out
 | some xs=>if bF sz xs=true then Gm ae (q_ sz bytes ag s xs sh ae) else none
 | none=>none
theorem Bz {sz bytes:Nat} {ag:Bool} {s:AV} {xs:List PV}:JF sz bytes ag s sh ae (some xs)=if bF sz xs=true then Gm ae (q_ sz bytes ag s xs sh ae) else none:=rfl
theorem kP {sz bytes:Nat} {ag:Bool} {s x:AV}:exec O (.dH sz bytes ag) [s,x] cells sh ae=JF sz bytes ag s sh ae (cN x):=by
 simp only [exec,JF]
 cases cN x with
 | none=>rfl
 | some xs=>
   simp only
   split
   · cases q_ sz bytes ag s xs sh ae<;>rfl
   · rfl
def BA (sz bytes:Nat) (ag:Bool) (b z n:Nat) (g:Bool) (xs:List PV) (sh:Sh):Option (Option (List AV))→Option (AV×Sh)
 | some (some cells)=>if z=sz∧g=ag∧c_ cells=false∧n*sz≤cells.length∧(n+xs.length)*bytes≤140737488355328 then
       if xs.isEmpty=true then some (.bz b sz n ag,sh) else some (.bz sh.length sz (n+xs.length) ag,sh.set b none++[some (cells.take (n*sz)++(xs.flatMap bq).map .pv)])
     else none
 | _=>none
theorem y4 {sz bytes:Nat} {ag:Bool} {b z n:Nat} {g:Bool} {xs:List PV} {cells:List AV}:BA sz bytes ag b z n g xs sh (some (some cells))=if z=sz∧g=ag∧c_ cells=false∧n*sz≤cells.length∧(n+xs.length)*bytes≤140737488355328 then
       if xs.isEmpty=true then some (.bz b sz n ag,sh) else some (.bz sh.length sz (n+xs.length) ag,sh.set b none++[some (cells.take (n*sz)++(xs.flatMap bq).map .pv)])
     else none:=rfl
theorem JG {sz bytes:Nat} {ag:Bool} {xs:List PV}:q_ sz bytes ag (.bJ []) xs sh ae=rV sz bytes ag (.bJ []) xs sh:=rfl
theorem JH {sz bytes τ:Nat} {ag:Bool} {xs:List PV}:q_ sz bytes ag (.own [] τ) xs sh ae=if ae[τ]?=some 0 then rV sz bytes ag (.own [] τ) xs sh else none:=rfl
theorem Gp {sz bytes b z n:Nat} {ag g:Bool} {xs:List PV}:q_ sz bytes ag (.bz b z n g) xs sh ae=BA sz bytes ag b z n g xs sh sh[b]?:=by
 simp only [q_,BA]
 rcases sh[b]? with _ | _ | cells<;>rfl
theorem MZ {sz bytes:Nat} {ag:Bool} {s:AV} {xs:List PV}:rV sz bytes ag s xs sh=if xs.isEmpty=true then some (s,sh) else if xs.length*bytes≤140737488355328 then some (.bz sh.length sz xs.length ag,sh++[some ((xs.flatMap bq).map .pv)]) else none:=rfl
def M0 (r:List Nat) (t:Nat) (st:St) (v:AV):Option PV→St
 | some p=>lU r { st with env:=dt st.env t (.pv p),sh:=dY st.sh [v] }
 | none=>lU r (A4 v st)
def Ez (d:Nat) (cs:List AV) (st:St):Option (List PV)→St
 | some ps=>{ st with mem:=dt st.mem d (ps.map .pv),sh:=dY st.sh [.agg cs] }
 | none=>st
def JI (d:Nat) (st:St):Option (List AV)→St
 | some cs=>Ez d cs st (d3 st.sh cs)
 | none=>st
theorem Gq {d:Nat} {st:St}:A4 (.aB d 0) st=JI d st (look st.mem d):=by
 simp only [A4]
 cases look st.mem d with
 | none=>rfl
 | some cs=>
   simp only [JI]
   cases d3 st.sh cs<;>rfl
theorem BB {d:Nat} {st:St} {cs:List AV}:JI d st (some cs)=Ez d cs st (d3 st.sh cs):=rfl
theorem BC {d:Nat} {st:St} {cs:List AV} {ps:List PV}:Ez d cs st (some ps)={ st with mem:=dt st.mem d (ps.map .pv),sh:=dY st.sh [.agg cs] }:=rfl
theorem BD {d:Nat} {st:St} {cs:List AV}:Ez d cs st none=st:=rfl
def M1 (r:List Nat) (t:Nat) (st:St):Option AV→St
 | some v=>M0 r t st v (dL st.sh v)
 | none=>lU r st
theorem JJ {st:St}:lU [] st=st:=rfl
theorem Gr {t:Nat} {r:List Nat} {st:St}:lU (t::r) st=M1 r t st (look st.env t):=by
 simp only [lU]
 cases look st.env t with
 | none=>rfl
 | some v=>
   simp only [M1]
   cases dL st.sh v<;>rfl
theorem Gt {r:List Nat} {t:Nat} {st:St} {v:AV}:M1 r t st (some v)=M0 r t st v (dL st.sh v):=rfl
theorem Gu {r:List Nat} {t:Nat} {st:St}:M1 r t st none=lU r st:=rfl
theorem Gv {r:List Nat} {t:Nat} {st:St} {v:AV} {p:PV}:M0 r t st v (some p)=lU r { st with env:=dt st.env t (.pv p),sh:=dY st.sh [v] }:=rfl
theorem Gw {r:List Nat} {t:Nat} {st:St} {v:AV}:M0 r t st v none=lU r (A4 v st):=rfl
def TA (ae:aH):Option Sh→Option Out
 | some sh=>some ⟨.nf [],none,sh,ae⟩
 | none=>none
theorem Gx {sh:Sh}:TA ae (some sh)=some ⟨.nf [],none,sh,ae⟩:=rfl
def JK (sz:Nat) (sh:Sh) (ae:aH) (x:AV):Option (List PV)→Option Out
 | some xs=>Rn ae (uE sz sh xs x)
 | none=>none
where Rn (ae:aH):Option (Nat×Sh)→Option Out
 | some (k,sh')=>some ⟨.pv (.int .i64 (k:Int)),none,sh',ae⟩
 | none=>none
theorem kO {sz:Nat} {x y:AV}:exec O (.lR sz) [x,y] cells sh ae=JK sz sh ae x (cN y):=by
 simp only [exec,JK]
 cases cN y with
 | none=>rfl
 | some xs=>simp only;cases uE sz sh xs x<;>rfl
def OR (sz bytes:Nat) (sh:Sh) (ae:aH) (s e:AV):Option (List PV)→Option Out
 | some xs=>TB sh ae (xT sz bytes xs s e ae)
 | none=>none
where TB (sh:Sh) (ae:aH):Option PV→Option Out
 | some p=>some ⟨.pv p,none,sh,ae⟩
 | none=>none
theorem je {sz bytes:Nat} {s x e:AV}:exec O (.gW sz bytes) [s,x,e] cells sh ae=OR sz bytes sh ae s e (cN x):=by
 simp only [exec,OR]
 cases cN x with
 | none=>rfl
 | some xs=>simp only;cases xT sz bytes xs s e ae<;>rfl
theorem Gy:ek [] []=true:=rfl
theorem BE {a b:List UInt8} {r q:List PV}:ek (.str a::r) (.str b::q)=((a == b) && ek r q):=rfl
theorem BF {sz b n:Nat} {ag lo hi:Bool} {rest:List AV}:bW (.A3 sz lo hi) (.bz b sz n ag::rest)=ou sz lo hi (.bz b sz n ag::rest):=rfl
theorem BG {aQ ts:aH} {a b c:Nat}:bX aQ ts (.nv a b c)=(.nv a b c,aQ,ts):=rfl
theorem BH {live:List Nat} {a b c:Nat}:dR live (.nv a b c)=true:=rfl
theorem JL {l:List PV}:cN (.pv (.aE l))=some l:=rfl
theorem Gz {l:List PV}:cN (.bJ l)=some l:=rfl
theorem GA {l:List PV} {τ:Nat}:cN (.own l τ)=some l:=rfl
theorem BI {sz:Nat}:bF sz []=true:=rfl
theorem y5 {sz:Nat} {p:PV} {r:List PV}:bF sz (p::r)=((bq p).length == sz):=rfl
def PX (sh:Sh) (ae:aH):Option (List PV)→Option Out
 | some rs=>some ⟨q9 rs,none,sh,ae⟩
 | none=>none
theorem GB {rs:List PV}:PX sh ae (some rs)=some ⟨q9 rs,none,sh,ae⟩:=rfl
def JM (O:eu) (g:Nat):Option (List PV)→Option (List PV)
 | some dO=>O.p g dO
 | none=>none
theorem nP {g:Nat} {dO:List PV}:JM O g (some dO)=O.p g dO:=rfl
theorem BK {g:Nat}:exec O (.aq g) vals cells sh ae=PX sh ae (JM O g (dT [] vals)):=by
 show (match dT [] vals with | some dO=>_ | none=>none)=_
 split
 · rename_i dO h
   rw [h,nP]
   cases O.p g dO<;>rfl
 · rename_i h;rw [h];rfl
theorem y6 {g:Nat}:exec O (.d7 g) vals cells sh ae=PX (dY sh vals) ae (JM O g (dT sh vals)):=by
 show (match dT sh vals with | some dO=>_ | none=>none)=_
 split
 · rename_i dO h
   rw [h,nP]
   cases O.p g dO<;>rfl
 · rename_i h;rw [h];rfl
def PY (n:Nat) (ts0:aH):Option (List AV×Sh×aH)→Option Out
 | some (rs,sh',ts)=>some ⟨oz (rs.map (cM n)),none,ix n sh',ts0++ts⟩
 | none=>none
theorem GC {n:Nat} {ts0:aH} {rs:List AV} {sh':Sh} {ts:aH}:PY n ts0 (some (rs,sh',ts))=some ⟨oz (rs.map (cM n)),none,ix n sh',ts0++ts⟩:=rfl
def EA (O:eu) (g n:Nat) (q:List AV×Sh×aH×aH):Option Out:=PY n q.2.2.1 (O.i g q.1 q.2.1 q.2.2.2)
theorem JN {g n:Nat} {a:List AV} {s:Sh} {o t:aH}:EA O g n (a,s,o,t)=PY n o (O.i g a s t):=rfl
def y7 (O:eu) (g:Nat) (args:List AV) (sh:Sh) (ae:aH):Option Out:=
 if args.all cp=true then EA O g ae.length (dE ae args sh) else none
theorem JO {g:Nat} {args:List AV}:y7 O g args sh ae=if args.all cp=true then EA O g ae.length (dE ae args sh) else none:=rfl
theorem qN {g:Nat} {own:List Nat}:(en O g own vals sh ae).map (fun (v,sh',ts)=>(⟨v,none,sh',ts⟩:Out))=y7 O g (fm own 0 vals) sh ae:=by
 unfold en y7 EA
 split
 · cases O.i g (dE ae (fm own 0 vals) sh).1 (dE ae (fm own 0 vals) sh).2.1 (dE ae (fm own 0 vals) sh).2.2.2 with
   | none=>rfl
   | some q=>obtain ⟨a,b,c⟩:=q;rfl
 · rfl
theorem BL {g:Nat} {own:List Nat}:exec O (.aF g own) vals cells sh ae=y7 O g (fm own 0 vals) sh ae:=qN
def Ue (sh:Sh):Option Out→Option Out
 | some o=>if lI o.sh sh=true then some ⟨o.val,none,sh,o.ae⟩ else none
 | none=>none
theorem JP {v:AV} {c:Option (List AV)} {s:Sh} {t:aH}:Ue sh (some ⟨v,c,s,t⟩)=if lI s sh=true then some ⟨v,none,sh,t⟩ else none:=rfl
theorem y8 {g:Nat} {cap:List AV}:exec O .dw (.fn g cap::vals) cells sh ae=Ue sh (y7 O g (fm [] 0 (vals++cap)) sh ae):=by
 rw [←qN]
 simp only [exec]
 cases en O g [] (vals++cap) sh ae with
 | none=>rfl
 | some q=>obtain ⟨v,s,t⟩:=q;rfl
theorem BM:AK.key .dw=none:=rfl
mutual
theorem vf:∀p:PV,nb p p=true
 | .bool _=>by simp [nb]
 | .int _ _=>by simp [nb]
 | .str _=>by simp [nb]
 | .agg l=>by simp only [nb];exact nQ l
 | .aE l=>by simp only [nb];exact nQ l
theorem nQ:∀l:List PV,oA l l=true
 | []=>rfl
 | p::r=>by simp only [oA,vf p,nQ r,Bool.and_self]
end
theorem PZ {p:PV}:QR (.pv p) (.pv p)=true:=vf p
theorem JQ:uc [] []=true:=rfl
theorem GD {a b:AV} {r q:List AV}:uc (a::r) (b::q)=(QR a b && uc r q):=rfl
theorem JR:lI [] []=true:=rfl
theorem GF {r q:Sh}:lI (none::r) (none::q)=lI r q:=rfl
theorem GG {a b:List AV} {r q:Sh}:lI (some a::r) (some b::q)=(uc a b && lI r q):=rfl
def b2sO:Option (List UInt8)→Option AV
 | some s=>some (.pv (.str s))
 | none=>none
theorem b2sO_some {s:List UInt8}:b2sO (some s)=some (.pv (.str s)):=rfl
def TC (sh:Sh) (ae:aH):Option (List AV×Sh×aH)→Option Out
 | some (rs,[],ts)=>some ⟨oz (rs.map (cM ae.length)),none,sh,ae++ts⟩
 | _=>none
theorem GH {rs:List AV} {ts:aH}:TC sh ae (some (rs,[],ts))=some ⟨oz (rs.map (cM ae.length)),none,sh,ae++ts⟩:=rfl
theorem BN {own:List Nat} {i:Nat}:fm own i []=[]:=rfl
theorem y9 {own:List Nat} {i:Nat} {v:AV} {r:List AV}:fm own i (v::r)=(if own.contains i then v else jI v)::fm own (i+1) r:=rfl
theorem JS {p:PV}:jI (.pv p)=.pv p:=rfl
theorem GI {l:List PV}:jI (.bJ l)=.pv (.aE l):=rfl
theorem GJ {l:List PV} {τ:Nat}:jI (.own l τ)=.pv (.aE l):=rfl
theorem BO {b o:Nat}:jI (.aZ b o)=.aZ b o:=rfl
theorem JT {g:Nat} {cap:List AV}:jI (.fn g cap)=.fn g cap:=rfl
theorem BP {b s n:Nat} {ag:Bool}:jI (.bz b s n ag)=.bz b s n ag:=rfl
theorem BQ:jI .dS=.dS:=rfl
theorem BR {s:Nat}:jI (.dj s)=(.dj s):=rfl
def wK (cs:List AV):Option (List PV)→AV
 | some ps=>.pv (.agg ps)
 | none=>.agg cs
theorem GK {cs:List AV}:jI (.agg cs)=wK cs (d3 [] cs):=by
 have h:dL [] (.agg cs)=(d3 [] cs).map .agg:=rfl
 unfold jI wK
 rw [h]
 cases d3 [] cs<;>rfl
theorem y_ {cs:List AV} {ps:List PV}:wK cs (some ps)=.pv (.agg ps):=rfl
def oX {α:Type}:Option α→Option (List α)→Option (List α)
 | some x,some l=>some (x::l)
 | _,_=>none
theorem BS {α:Type} {x:α} {l:List α}:oX (some x) (some l)=some (x::l):=rfl
theorem BT {env:List (Nat×AV)}:ew env []=some []:=rfl
theorem za {env:List (Nat×AV)} {x:fF} {r:List fF}:ew env (x::r)=oX (ir env x) (ew env r):=by
 simp only [ew]
 cases ir env x<;>cases ew env r<;>rfl
theorem M3 {env:List (Nat×AV)} {n:Nat}:ir env (.t n)=look env n:=rfl
theorem M4 {env:List (Nat×AV)} {v:AV}:ir env (.c v)=some v:=rfl
theorem JU:fG []=some []:=rfl
theorem pR {v:AV} {r:List AV}:fG (v::r)=oX (ky v) (fG r):=by
 simp only [fG]
 cases ky v<;>cases fG r<;>rfl
theorem BU:dT sh []=some []:=rfl
theorem zb {v:AV} {r:List AV}:dT sh (v::r)=oX (dL sh v) (dT sh r):=by
 simp only [dT]
 cases dL sh v<;>cases dT sh r<;>rfl
theorem GL:d3 sh []=some []:=rfl
theorem BV {v:AV} {r:List AV}:d3 sh (v::r)=if bm v=true then oX (dI sh v) (d3 sh r) else none:=by
 simp only [d3]
 split
 · cases dI sh v<;>cases d3 sh r<;>rfl
 · rfl
theorem M5 {p:PV}:ky (.pv p)=some p:=rfl
theorem JV {l:List PV}:ky (.bJ l)=some (.aE l):=rfl
theorem JW {l:List PV} {τ:Nat}:ky (.own l τ)=some (.aE l):=rfl
theorem P0 {p:PV}:dL sh (.pv p)=some p:=rfl
theorem M6 {l:List PV}:dL sh (.bJ l)=some (.aE l):=rfl
theorem M7 {l:List PV} {τ:Nat}:dL sh (.own l τ)=some (.aE l):=rfl
def Ro:Option (List PV)→Option PV
 | some ps=>some (.agg ps)
 | none=>none
theorem GM {ps:List PV}:Ro (some ps)=some (.agg ps):=rfl
theorem M8 {cs:List AV}:dL sh (.agg cs)=Ro (d3 sh cs):=by
 simp only [dL]
 cases d3 sh cs<;>rfl
theorem BW {p:PV}:dI sh (.pv p)=some p:=rfl
theorem zc {l:List PV}:dI sh (.bJ l)=some (.aE l):=rfl
theorem zd {l:List PV} {τ:Nat}:dI sh (.own l τ)=some (.aE l):=rfl
theorem wL {b o:Nat}:dI sh (.aZ b o)=none:=rfl
theorem BX {g:Nat} {c:List AV}:dI sh (.fn g c)=none:=rfl
theorem wM:dI sh .dS=none:=rfl
theorem wO {s:Nat}:dI sh (.dj s)=none:=rfl
theorem JY {b o:Nat}:dL sh (.aZ b o)=none:=rfl
theorem P1 {g:Nat} {c:List AV}:dL sh (.fn g c)=none:=rfl
theorem JZ:dL sh .dS=none:=rfl
theorem J0 {s:Nat}:dL sh (.dj s)=none:=rfl
def M9 (sz n:Nat) (ag:Bool):Option (Option (List AV))→Option PV
 | some (some cells)=>if cells.length=n*sz then ((fG cells).bind (fh sz ag n)).map .aE
   else if c_ cells=false∧n*sz≤cells.length then ((fG (cells.take (n*sz))).bind (fh sz ag n)).map .aE else none
 | _=>none
theorem wP {b sz n:Nat} {ag:Bool}:dI sh (.bz b sz n ag)=M9 sz n ag sh[b]?:=rfl
theorem J3 {b sz n:Nat} {ag:Bool}:dL sh (.bz b sz n ag)=M9 sz n ag sh[b]?:=rfl
theorem GN {sz n:Nat} {ag:Bool} {cells:List AV}:M9 sz n ag (some (some cells))=if cells.length=n*sz then ((fG cells).bind (fh sz ag n)).map .aE else if c_ cells=false∧n*sz≤cells.length then ((fG (cells.take (n*sz))).bind (fh sz ag n)).map .aE else none:=rfl
theorem J4 {r:PV}:q9 [r]=.pv r:=rfl
theorem J5:q9 []=.nf []:=rfl
theorem J6 {a b:PV} {r:List PV}:q9 (a::b::r)=.nf (.pv a::.pv b::r.map .pv):=rfl
theorem J7 {r:AV}:oz [r]=r:=rfl
theorem J8:oz []=.nf []:=rfl
theorem J9 {a b:AV} {r:List AV}:oz (a::b::r)=.nf (a::b::r):=rfl
theorem J_ {xs:List AV}:dE ae xs sh=((bI ae [] xs).1,(cf (bI ae [] xs).2.1 (bI ae [] xs).2.2 sh).1,(cf (bI ae [] xs).2.1 (bI ae [] xs).2.2 sh).2.1,(cf (bI ae [] xs).2.1 (bI ae [] xs).2.2 sh).2.2):=rfl
theorem GO {aQ ts:aH}:bI aQ ts []=([],aQ,ts):=rfl
theorem sT {aQ ts:aH} {v:AV} {r:List AV}:bI aQ ts (v::r)=((bX aQ ts v).1::(bI (bX aQ ts v).2.1 (bX aQ ts v).2.2 r).1,(bI (bX aQ ts v).2.1 (bX aQ ts v).2.2 r).2):=rfl
theorem GP {aQ ts:aH}:cf aQ ts []=([],aQ,ts):=rfl
theorem sU {aQ ts:aH} {r:Sh}:cf aQ ts (none::r)=(none::(cf aQ ts r).1,(cf aQ ts r).2):=rfl
theorem sV {aQ ts:aH} {cs:List AV} {r:Sh}:cf aQ ts (some cs::r)=(some (bI aQ ts cs).1::(cf (bI aQ ts cs).2.1 (bI aQ ts cs).2.2 r).1,(cf (bI aQ ts cs).2.1 (bI aQ ts cs).2.2 r).2):=rfl
theorem GQ {aQ ts:aH}:dU aQ ts []=([],aQ,ts):=rfl
theorem BY {aQ ts:aH} {t:Nat} {v:AV} {r:List (Nat×AV)}:dU aQ ts ((t,v)::r)=((t,(bX aQ ts v).1)::(dU (bX aQ ts v).2.1 (bX aQ ts v).2.2 r).1,(dU (bX aQ ts v).2.1 (bX aQ ts v).2.2 r).2):=rfl
theorem GR {aQ ts:aH}:fM aQ ts []=([],aQ,ts):=rfl
theorem BZ {aQ ts:aH} {t:Nat} {v:List AV} {r:List (Nat×List AV)}:fM aQ ts ((t,v)::r)=((t,(bI aQ ts v).1)::(fM (bI aQ ts v).2.1 (bI aQ ts v).2.2 r).1,(fM (bI aQ ts v).2.1 (bI aQ ts v).2.2 r).2):=rfl
theorem GS {aQ ts:aH} {l:List PV} {τ:Nat}:bX aQ ts (.own l τ)=if aQ[τ]?=some l.length then (.own l ts.length,aQ.set τ (l.length+1),ts++[l.length]) else (.pv (.aE l),aQ,ts):=rfl
theorem GU {aQ ts:aH} {l:List PV}:bX aQ ts (.bJ l)=(.own l ts.length,aQ,ts++[l.length]):=rfl
theorem J' {aQ ts:aH}:bX aQ ts .un=(.un,aQ,ts):=rfl
theorem ze {aQ ts:aH} {p:PV}:bX aQ ts (.pv p)=(.pv p,aQ,ts):=rfl
def B0 (aQ ts:aH) (p:List AV):Bool→AV×aH×aH
 | true=>(.agg p,aQ,ts)
 | false=>(.agg (dc aQ ts p).1,(dc aQ ts p).2.1,(dc aQ ts p).2.2)
theorem GV {aQ ts:aH} {p:List AV}:bX aQ ts (.agg p)=B0 aQ ts p (bP.eW p):=by
 simp only [bX]
 cases bP.eW p<;>rfl
theorem zg {aQ ts:aH} {p:List AV}:B0 aQ ts p true=(.agg p,aQ,ts):=rfl
theorem wQ {aQ ts:aH} {p:List AV}:B0 aQ ts p false=(.agg (dc aQ ts p).1,(dc aQ ts p).2.1,(dc aQ ts p).2.2):=rfl
theorem B1 {aQ ts:aH}:dc aQ ts []=([],aQ,ts):=rfl
theorem zh {aQ ts:aH} {v:AV} {r:List AV}:dc aQ ts (v::r)=((d4 aQ ts v).1::(dc (d4 aQ ts v).2.1 (d4 aQ ts v).2.2 r).1,(dc (d4 aQ ts v).2.1 (d4 aQ ts v).2.2 r).2):=rfl
theorem GW {aQ ts:aH} {l:List PV} {τ:Nat}:d4 aQ ts (.own l τ)=if aQ[τ]?=some l.length then (.own l ts.length,aQ.set τ (l.length+1),ts++[l.length]) else (.pv (.aE l),aQ,ts):=rfl
theorem Ka {aQ ts:aH} {p:PV}:d4 aQ ts (.pv p)=(.pv p,aQ,ts):=rfl
theorem GX {aQ ts:aH} {p:List PV}:d4 aQ ts (.bJ p)=(.bJ p,aQ,ts):=rfl
theorem B2 {aQ ts:aH} {a b:Nat}:d4 aQ ts (.aZ a b)=(.aZ a b,aQ,ts):=rfl
theorem B3 {aQ ts:aH} {a b c:Nat} {d:Bool}:d4 aQ ts (.bz a b c d)=(.bz a b c d,aQ,ts):=rfl
theorem Kb {aQ ts:aH} {a:Nat} {c:List AV}:d4 aQ ts (.fn a c)=(.fn a c,aQ,ts):=rfl
theorem B4 {aQ ts:aH}:d4 aQ ts .dS=(.dS,aQ,ts):=rfl
theorem B5 {s:Nat} {aQ ts:aH}:d4 aQ ts (.dj s)=((.dj s),aQ,ts):=rfl
theorem GY {aQ ts:aH} {p:List AV}:bX aQ ts (.nf p)=(.nf p,aQ,ts):=rfl
theorem B6 {aQ ts:aH} {a b:Nat}:bX aQ ts (.aB a b)=(.aB a b,aQ,ts):=rfl
theorem B7 {aQ ts:aH} {a b:Nat}:bX aQ ts (.aZ a b)=(.aZ a b,aQ,ts):=rfl
theorem B8 {aQ ts:aH} {a:List PV}:bX aQ ts (.dG a)=(.dG a,aQ,ts):=rfl
theorem B9 {aQ ts:aH} {a b c:Nat} {d:Bool}:bX aQ ts (.bz a b c d)=(.bz a b c d,aQ,ts):=rfl
theorem Kc {aQ ts:aH} {a:Nat} {c:List AV}:bX aQ ts (.fn a c)=(.fn a c,aQ,ts):=rfl
theorem B_ {aQ ts:aH}:bX aQ ts .dS=(.dS,aQ,ts):=rfl
theorem B' {s:Nat} {aQ ts:aH}:bX aQ ts (.dj s)=((.dj s),aQ,ts):=rfl
theorem Ca {s:List (PV×PV)} {aQ ts:aH}:bX aQ ts (.dQ s)=((.dQ s),aQ,ts):=rfl
theorem M_ {env:List (Nat×AV)} {mem:List (Nat×List AV)}:norm ⟨env,mem,sh,ae⟩ =
   { env:=(dU ae [] env).1,
     mem:=(fM (dU ae [] env).2.1 (dU ae [] env).2.2 mem).1,
     sh:=(cf (fM (dU ae [] env).2.1 (dU ae [] env).2.2 mem).2.1 (fM (dU ae [] env).2.1 (dU ae [] env).2.2 mem).2.2 sh).1,
     ae:=(cf (fM (dU ae [] env).2.1 (dU ae [] env).2.2 mem).2.1 (fM (dU ae [] env).2.1 (dU ae [] env).2.2 mem).2.2 sh).2.2 }:=rfl
theorem zi {live:List Nat} {env:List (Nat×AV)} {mem:List (Nat×List AV)}:restrict live ⟨env,mem,sh,ae⟩=⟨ca live env live,cg mem live,sh,ae⟩:=rfl
def Kd (live:List Nat) (t:Nat) (rest:List (Nat×AV)):Option AV→List (Nat×AV)
 | some v=>if dR live v=true then (t,v)::rest else rest
 | none=>rest
theorem Cb {live:List Nat} {t:Nat} {rest:List (Nat×AV)} {v:AV}:Kd live t rest (some v)=if dR live v=true then (t,v)::rest else rest:=rfl
theorem Cd {live:List Nat} {t:Nat} {rest:List (Nat×AV)}:Kd live t rest none=rest:=rfl
theorem re {live:List Nat} {env:List (Nat×AV)}:ca live env []=[]:=rfl
theorem pS {live:List Nat} {env:List (Nat×AV)} {t:Nat} {r:List Nat}:ca live env (t::r)=Kd live t (ca live env r) (look env t):=by
 show (match look env t with | some v=>_ | none=>_)=_
 cases look env t<;>rfl
def Ke (t:Nat) (rest:List (Nat×List AV)):Option (List AV)→List (Nat×List AV)
 | some v=>(t,v)::rest
 | none=>rest
theorem Ce {t:Nat} {rest:List (Nat×List AV)} {v:List AV}:Ke t rest (some v)=(t,v)::rest:=rfl
theorem Cf {t:Nat} {rest:List (Nat×List AV)}:Ke t rest none=rest:=rfl
theorem rf {mem:List (Nat×List AV)}:cg mem []=[]:=rfl
theorem pT {mem:List (Nat×List AV)} {t:Nat} {r:List Nat}:cg mem (t::r)=Ke t (cg mem r) (look mem t):=by
 show (match look mem t with | some v=>_ | none=>_)=_
 cases look mem t<;>rfl
theorem Cg {live:List Nat} {d o:Nat}:dR live (.aB d o)=live.contains d:=rfl
theorem GZ {live:List Nat} {l:List PV} {τ:Nat}:dR live (.own l τ)=true:=rfl
theorem Kf {live:List Nat}:dR live .un=true:=rfl
theorem Kg {live:List Nat} {p:PV}:dR live (.pv p)=true:=rfl
theorem G8 {live:List Nat} {l:List PV}:dR live (.bJ l)=true:=rfl
theorem G9 {live:List Nat} {l:List AV}:dR live (.agg l)=fH l:=rfl
theorem Ci:fH []=true:=rfl
theorem zj {v:AV} {r:List AV}:fH (v::r)=(gi v && fH r):=rfl
theorem G_ {l:List PV} {τ:Nat}:gi (.own l τ)=true:=rfl
theorem Kh {p:PV}:gi (.pv p)=true:=rfl
theorem Ha {l:List PV}:gi (.bJ l)=true:=rfl
theorem Cj {a b:Nat}:gi (.aZ a b)=true:=rfl
theorem Ck {a b c:Nat} {d:Bool}:gi (.bz a b c d)=true:=rfl
theorem Ki {a:Nat} {c:List AV}:gi (.fn a c)=bP.eW c:=rfl
theorem Hb {c:List AV}:gi (.agg c)=bP.eW c:=rfl
theorem Cl:gi .dS=true:=rfl
theorem Kj:gi .un=true:=rfl
theorem Cm {s:Nat}:gi (.dj s)=true:=rfl
theorem Hc {live:List Nat} {l:List AV}:dR live (.nf l)=bP.eW l:=rfl
theorem Cn {live:List Nat} {a b:Nat}:dR live (.aZ a b)=true:=rfl
theorem Co {live:List Nat} {a:List PV}:dR live (.dG a)=true:=rfl
theorem Cp {live:List Nat} {a b c:Nat} {d:Bool}:dR live (.bz a b c d)=true:=rfl
theorem Kk {live:List Nat} {a:Nat} {c:List AV}:dR live (.fn a c)=bP.eW c:=rfl
theorem Cq {live:List Nat}:dR live .dS=true:=rfl
theorem Cr {s:Nat} {live:List Nat}:dR live (.dj s)=true:=rfl
theorem look_nil {α:Type} {t:Nat}:look ([]:List (Nat×α)) t=none:=rfl
theorem He {α:Type} {k t:Nat} {v:α} {r:List (Nat×α)}:look ((k,v)::r) t=if k=t then some v else look r t:=rfl
theorem Kl {α:Type} {t:Nat} {v:α}:dt ([]:List (Nat×α)) t v=[(t,v)]:=rfl
theorem Hf {α:Type} {k t:Nat} {v u:α} {r:List (Nat×α)}:dt ((k,v)::r) t u=if k=t then (k,u)::r else (k,v)::dt r t u:=rfl
theorem Hg {env:List (Nat×AV)} {d:Nat} {v:AV}:gp env (some d) v=dt env d v:=rfl
theorem Hh {env:List (Nat×AV)} {v:AV}:gp env none v=env:=rfl
theorem Hi {mem:List (Nat×List AV)} {k:Nat} {cs:List AV}:eX mem (some k) (some cs)=dt mem k cs:=rfl
theorem e8 {mem:List (Nat×List AV)} {o:Option (List AV)}:eX mem none o=mem:=rfl
theorem Cs {mem:List (Nat×List AV)} {k:Nat}:eX mem (some k) none=mem:=rfl
theorem wR {i:Nat}:cK i []=[]:=rfl
theorem uw {i:Nat} {v:AV} {r:List AV}:cK i (v::r)=(i,v)::cK (i+1) r:=rfl
theorem Ct {cs:List AV}:bg (.agg cs)=cs:=rfl
theorem zk {cs:List PV}:bg (.pv (.agg cs))=cs.map .pv:=rfl
theorem zm {b:Bool}:bg (.pv (.bool b))=[.pv (.bool b)]:=rfl
theorem Cu {k:IntKind} {n:Int}:bg (.pv (.int k n))=[.pv (.int k n)]:=rfl
theorem Cv {s:List UInt8}:bg (.pv (.str s))=[.pv (.str s)]:=rfl
theorem Cx {l:List PV}:bg (.pv (.aE l))=[.pv (.aE l)]:=rfl
theorem Cy {l:List PV}:bg (.bJ l)=[.bJ l]:=rfl
theorem Cz {l:List PV} {τ:Nat}:bg (.own l τ)=[.own l τ]:=rfl
theorem zn {a b:Nat}:bg (.aZ a b)=[.aZ a b]:=rfl
theorem zo {a b c:Nat} {d:Bool}:bg (.bz a b c d)=[.bz a b c d]:=rfl
theorem Hj {a:Nat} {c:List AV}:bg (.fn a c)=[.fn a c]:=rfl
theorem zp:bg .dS=[.dS]:=rfl
theorem zq {s:Nat}:bg (.dj s)=[(.dj s)]:=rfl
theorem CA {cs:List PV}:bq (.agg cs)=cs:=rfl
theorem zt {b:Bool}:bq (.bool b)=[.bool b]:=rfl
theorem CB {k:IntKind} {n:Int}:bq (.int k n)=[.int k n]:=rfl
theorem CC {s:List UInt8}:bq (.str s)=[.str s]:=rfl
theorem CD {l:List PV}:bq (.aE l)=[.aE l]:=rfl
theorem CE {b:Bool}:bm (.pv (.bool b))=true:=rfl
theorem Hk {k:IntKind} {n:Int}:bm (.pv (.int k n))=true:=rfl
theorem Hl {s:List UInt8}:bm (.pv (.str s))=true:=rfl
theorem Hm {l:List PV}:bm (.pv (.aE l))=true:=rfl
theorem Hn {l:List PV}:bm (.bJ l)=true:=rfl
theorem Ho {l:List PV} {τ:Nat}:bm (.own l τ)=true:=rfl
theorem CF {a b:Nat}:bm (.aZ a b)=true:=rfl
theorem CG {a b c:Nat} {d:Bool}:bm (.bz a b c d)=true:=rfl
theorem Km {a:Nat} {c:List AV}:bm (.fn a c)=bV.im c:=rfl
theorem CH:bm .dS=true:=rfl
theorem CI {s:Nat}:bm (.dj s)=true:=rfl
theorem CJ {s:List (PV×PV)}:bm (.dQ s)=true:=rfl
theorem Ko {v:AV}:dv v=bm v:=rfl
theorem Kq {p:PV}:bV (.pv p)=true:=rfl
theorem Hp {l:List PV}:bV (.bJ l)=true:=rfl
theorem CL {a b:Nat}:bV (.aZ a b)=true:=rfl
theorem CM {a b c:Nat} {d:Bool}:bV (.bz a b c d)=true:=rfl
theorem CN:bV .dS=true:=rfl
theorem CO {s:Nat}:bV (.dj s)=true:=rfl
theorem Kr {a:Nat} {c:List AV}:bV (.fn a c)=bV.im c:=rfl
theorem Hq {c:List AV}:bV (.agg c)=bV.im c:=rfl
theorem Hr:bV.im []=true:=rfl
theorem CP {v:AV} {r:List AV}:bV.im (v::r)=(bV v && bV.im r):=rfl
theorem Hs {l:List PV} {τ:Nat}:cp (.own l τ)=true:=rfl
theorem Ks {p:PV}:cp (.pv p)=true:=rfl
theorem Ht {l:List PV}:cp (.bJ l)=true:=rfl
theorem CQ {a b:Nat}:cp (.aZ a b)=true:=rfl
theorem CR {a b c:Nat} {d:Bool}:cp (.bz a b c d)=true:=rfl
theorem CS:cp .dS=true:=rfl
theorem CT {s:Nat}:cp (.dj s)=true:=rfl
theorem Kt {a:Nat} {c:List AV}:cp (.fn a c)=bV.im c:=rfl
theorem Hu {c:List AV}:cp (.agg c)=fJ c:=rfl
theorem CU:fJ []=true:=rfl
theorem zu {v:AV} {r:List AV}:fJ (v::r)=(iq v && fJ r):=rfl
theorem Hv {l:List PV} {τ:Nat}:iq (.own l τ)=true:=rfl
theorem Ku {p:PV}:iq (.pv p)=true:=rfl
theorem Hw {l:List PV}:iq (.bJ l)=true:=rfl
theorem CV {a b:Nat}:iq (.aZ a b)=true:=rfl
theorem CW {a b c:Nat} {d:Bool}:iq (.bz a b c d)=true:=rfl
theorem CX:iq .dS=true:=rfl
theorem CY {s:Nat}:iq (.dj s)=true:=rfl
theorem Kv {a:Nat} {c:List AV}:iq (.fn a c)=bV.im c:=rfl
theorem Hx {c:List AV}:iq (.agg c)=bV.im c:=rfl
theorem Hy:bP.eW []=true:=rfl
theorem CZ {v:AV} {r:List AV}:bP.eW (v::r)=(bP v && bP.eW r):=rfl
theorem Kx {p:PV}:bP (.pv p)=true:=rfl
theorem Hz {l:List PV}:bP (.bJ l)=true:=rfl
theorem HA {l:List PV} {τ:Nat}:bP (.own l τ)=false:=rfl
theorem C0 {a b:Nat}:bP (.aZ a b)=true:=rfl
theorem C1 {a b c:Nat} {d:Bool}:bP (.bz a b c d)=true:=rfl
theorem Ky {a:Nat} {c:List AV}:bP (.fn a c)=bP.eW c:=rfl
theorem C2:bP .dS=true:=rfl
theorem C3 {s:Nat}:bP (.dj s)=true:=rfl
theorem Kz:bP .un=true:=rfl
theorem C4 {a b:Nat}:bP (.aB a b)=false:=rfl
theorem HB {c:List AV}:bP (.agg c)=bP.eW c:=rfl
theorem HC {n:Nat} {p:PV}:aM n (.pv p)=true:=rfl
theorem C5 {n:Nat} {l:List PV}:aM n (.bJ l)=true:=rfl
theorem C6 {n:Nat} {l:List PV} {τ:Nat}:aM n (.own l τ)=true:=rfl
theorem zw {n:Nat}:aM n .dS=true:=rfl
theorem zx {s:Nat} {n:Nat}:aM n (.dj s)=decide (s<n):=rfl
theorem zy {s:List (PV×PV)} {n:Nat}:aM n (.dQ s)=true:=rfl
theorem zz {n a b:Nat}:aM n (.aZ a b)=decide (a<n):=rfl
theorem zA {n a b c:Nat} {d:Bool}:aM n (.bz a b c d)=decide (a<n):=rfl
theorem HD {n a:Nat} {c:List AV}:aM n (.fn a c)=aM.cU n c:=rfl
theorem C7 {n:Nat} {c:List AV}:aM n (.agg c)=aM.cU n c:=rfl
theorem zB {n:Nat}:aM.cU n []=true:=rfl
theorem wS {n:Nat} {v:AV} {r:List AV}:aM.cU n (v::r)=(aM n v && aM.cU n r):=rfl
theorem C8 {n τ:Nat} {l:List PV}:cM n (.own l τ)=.own l (τ+n):=rfl
theorem vg {n:Nat} {p:PV}:cM n (.pv p)=.pv p:=rfl
theorem C9 {n:Nat} {p:List PV}:cM n (.bJ p)=.bJ p:=rfl
def wT (n:Nat) (p:List AV):Bool→AV
 | true=>.agg p
 | false=>.agg (p.map (fK n))
theorem C_ {n:Nat} {p:List AV}:cM n (.agg p)=wT n p (bP.eW p):=by
 simp only [cM]
 cases bP.eW p<;>rfl
theorem wU {n:Nat} {p:List AV}:wT n p true=.agg p:=rfl
theorem ux {n:Nat} {p:List AV}:wT n p false=.agg (p.map (fK n)):=rfl
theorem C' {n τ:Nat} {l:List PV}:fK n (.own l τ)=.own l (τ+n):=rfl
theorem HE {n:Nat} {p:PV}:fK n (.pv p)=.pv p:=rfl
theorem Da {n:Nat} {p:List PV}:fK n (.bJ p)=.bJ p:=rfl
theorem zD {n a b:Nat}:fK n (.aZ a b)=.aZ a b:=rfl
theorem HF {n a:Nat} {b:List AV}:fK n (.fn a b)=.fn a b:=rfl
theorem zE {n a b c:Nat} {d:Bool}:fK n (.bz a b c d)=.bz a b c d:=rfl
theorem zF {n:Nat}:fK n .dS=.dS:=rfl
theorem zG {s:Nat} {n:Nat}:fK n (.dj s)=(.dj s):=rfl
theorem zH {n a b:Nat}:cM n (.aZ a b)=.aZ a b:=rfl
theorem HG {n a:Nat} {b:List AV}:cM n (.fn a b)=.fn a b:=rfl
theorem zI {n a b c:Nat} {d:Bool}:cM n (.bz a b c d)=.bz a b c d:=rfl
theorem zJ {n:Nat}:cM n .dS=.dS:=rfl
theorem zK {s:Nat} {n:Nat}:cM n (.dj s)=(.dj s):=rfl
theorem zL {s:List (PV×PV)} {n:Nat}:cM n (.dQ s)=(.dQ s):=rfl
theorem Db {n:Nat}:ix n []=[]:=rfl
theorem qO {n:Nat} {r:Sh}:ix n (none::r)=none::ix n r:=rfl
theorem qP {n:Nat} {cs:List AV} {r:Sh}:ix n (some cs::r)=some (cs.map (cM n))::ix n r:=rfl
theorem uy {b:Bool}:bW.zeroCell (.bool b)=.pv (.bool b):=rfl
theorem wV {k:IntKind} {n:Int}:bW.zeroCell (.int k n)=.pv (.int k n):=rfl
theorem wW {s:List UInt8}:bW.zeroCell (.str s)=.pv (.str s):=rfl
theorem wX:bW.zeroCell (.aE [])=.bJ []:=rfl
theorem zM {l:List PV}:cB (.bJ l)=[.bJ l]:=rfl
theorem zN {l:List PV} {τ:Nat}:cB (.own l τ)=[.own l τ]:=rfl
theorem Dc {p:PV}:cB (.pv p)=bg (.pv p):=rfl
theorem wY {a b:Nat}:cB (.aZ a b)=[.aZ a b]:=rfl
theorem wZ {a b c:Nat} {d:Bool}:cB (.bz a b c d)=[.bz a b c d]:=rfl
theorem Dd {a:Nat} {c:List AV}:cB (.fn a c)=[.fn a c]:=rfl
theorem w6:cB .dS=[.dS]:=rfl
theorem w7 {s:Nat}:cB (.dj s)=[(.dj s)]:=rfl
def EB (cs:List AV):Option (List PV)→List AV
 | some ps=>ps.map .pv
 | none=>cs
theorem zP {cs:List AV}:cB (.agg cs)=EB cs (d3 [] cs):=by
 show (match dL [] (.agg cs) with | some p=>bg (.pv p) | none=>bg (.agg cs))=_
 have h:dL [] (.agg cs)=(d3 [] cs).map .agg:=rfl
 unfold EB
 rw [h]
 cases d3 [] cs<;>rfl
theorem De {cs:List AV} {ps:List PV}:EB cs (some ps)=ps.map .pv:=rfl
theorem sW {cs:List AV}:EB cs none=cs:=rfl
theorem Rp {o:ua}:AK.key (.v o)=none:=rfl
theorem HH {k o s:Nat} {a:Bool}:AK.key (.bh k o s a)=some k:=rfl
theorem Df {k o s:Nat}:AK.key (.cY k o s)=some k:=rfl
theorem HI {k:Nat} {z:List PV}:AK.key (.alloc k z)=some k:=rfl
theorem Na {k s:Nat}:AK.key (.box k s)=some k:=rfl
theorem HJ {s:Nat} {a:Bool}:AK.key (.bf s a)=none:=rfl
theorem Dg {s:Nat}:AK.key (.cZ s)=none:=rfl
theorem KA {s:Nat}:AK.key (.nA s)=none:=rfl
theorem Dh {s:List PV}:AK.key (.jX s)=none:=rfl
theorem HK {s b:Nat} {a:Bool} {z:List PV}:AK.key (.iY s b a z)=none:=rfl
theorem zQ {s b:Nat} {ag:Bool}:AK.key (.dH s b ag)=none:=rfl
theorem Di {s b:Nat}:AK.key (.append s b)=none:=rfl
theorem HL {g:Nat}:AK.key (.aq g)=none:=rfl
theorem Dj {g:Nat}:AK.key (.d7 g)=none:=rfl
theorem HM {g:Nat}:AK.key (.lA g)=none:=rfl
theorem HN {g:Nat} {o:List Nat}:AK.key (.aF g o)=none:=rfl
theorem HO:AK.ot.key=none:=rfl
theorem HP {c:CK} {ok:Bool} {z:PV}:(AK.ku c ok z).key=none:=rfl
theorem KB {c:CK}:(AK.rR c).key=none:=rfl
theorem HQ {sz bytes:Nat}:(AK.clone sz bytes).key=none:=rfl
theorem HR:AK.key .jG=none:=rfl
theorem bind_none {f:Nat→Option (List AV)}:(none:Option Nat).bind f=none:=rfl
theorem bind_some {f:Nat→Option (List AV)} {n:Nat}:(some n).bind f=f n:=rfl
theorem Dk {sz off:Nat} {cs:List AV}:cA true sz cs off=if off+sz≤cs.length then some (.agg ((cs.drop off).take sz)) else none:=rfl
theorem zR {off:Nat} {cs:List AV}:cA false 1 cs off=if off+1≤cs.length then cs[off]? else none:=rfl
theorem zT {sz:Nat} {cs:List PV}:da true sz cs=if sz≤cs.length then some (.pv (.agg (cs.take sz))) else none:=rfl
theorem w8 {c:PV} {cs:List PV}:da false 1 (c::cs)=some (.pv c):=by simp [da]
theorem aI {cs vs:List AV} {off:Nat}:bn cs off vs=cs.take off++vs++cs.drop (off+vs.length):=rfl
theorem P2 {x:AV}:bW .mv [x]=some x:=rfl
theorem KD {c:Bool} {a b:AV}:bW .pick [.pv (.bool c),a,b]=if c=true then some a else some b:=by cases c<;>rfl
theorem Nb {i:Nat} {vs:List AV}:bW (.ext i) [.nf vs]=vs[i]?:=rfl
theorem HS {off sz:Nat} {ag:Bool} {cs:List AV}:bW (.field off sz ag) [.agg cs]=cA ag sz cs off:=rfl
theorem Dl {off sz:Nat} {ag:Bool} {cs:List PV}:bW (.field off sz ag) [.pv (.agg cs)]=da ag sz (cs.drop off):=rfl
theorem Dm {off d o:Nat}:bW (.bp off) [.aB d o]=some (.aB d (o+off)):=rfl
theorem Dn {off d o:Nat}:bW (.bp off) [.aZ d o]=some (.aZ d (o+off)):=rfl
theorem Dp {off:Nat} {cs:List PV}:bW (.bp off) [.dG cs]=some (.dG (cs.drop off)):=rfl
def w_ (sz:Nat):Option PV→Option AV
 | some el=>if (bq el).length=sz then some (.dG (bq el)) else none
 | none=>none
theorem zU {sz:Nat} {el:PV}:w_ sz (some el)=if (bq el).length=sz then some (.dG (bq el)) else none:=rfl
theorem HT {sz:Nat} {l:List PV} {k:IntKind} {i:Int}:bW (.aC sz) [.pv (.aE l),.pv (.int k i)]=if i<0 then none else w_ sz l[i.toNat]?:=by
 show (if i<0 then none else _)=_
 split
 · rfl
 · show (match l[i.toNat]? with | some el=>_ | none=>_)=_
   cases l[i.toNat]?<;>rfl
theorem Dq {sz:Nat} {l:List PV} {k:IntKind} {i:Int}:bW (.aC sz) [.bJ l,.pv (.int k i)]=if i<0 then none else w_ sz l[i.toNat]?:=by
 show (if i<0 then none else _)=_
 split
 · rfl
 · show (match l[i.toNat]? with | some el=>_ | none=>_)=_
   cases l[i.toNat]?<;>rfl
theorem Dr {sz τ:Nat} {l:List PV} {k:IntKind} {i:Int}:bW (.aC sz) [.own l τ,.pv (.int k i)]=if i<0 then none else w_ sz l[i.toNat]?:=by
 show (if i<0 then none else _)=_
 split
 · rfl
 · show (match l[i.toNat]? with | some el=>_ | none=>_)=_
   cases l[i.toNat]?<;>rfl
theorem Du {sz b sz' n:Nat} {ag:Bool} {k:IntKind} {i:Int}:bW (.aC sz) [.bz b sz' n ag,.pv (.int k i)]=if i<0 then none else if sz=sz'∧i.toNat<n then some (.aZ b (i.toNat*sz)) else none:=rfl
def Rq:Option UInt8→Option AV
 | some b=>some (.pv (.int .u8 b.toNat))
 | none=>none
theorem Dv {b:UInt8}:Rq (some b)=some (.pv (.int .u8 b.toNat)):=rfl
def Rr:Option (List AV)→Option AV
 | some cs=>some (.agg cs)
 | none=>none
theorem HU {cs:List AV}:Rr (some cs)=some (.agg cs):=rfl
theorem HV {zero:List PV} {places:List (Nat×Nat)}:bW (.build zero places) vals=Rr (lB (zero.map bW.zeroCell) places vals):=by
 show (lB _ _ _).map _=_
 cases lB (zero.map bW.zeroCell) places vals<;>rfl
theorem HW {cs:List AV}:lB cs [] []=some cs:=rfl
theorem Dw {cs:List AV} {off sz:Nat} {ps:List (Nat×Nat)} {v:AV} {vs:List AV}:lB cs ((off,sz)::ps) (v::vs) =
   if (bg v).length=sz∧off+sz≤cs.length∧(bg v).all bm=true then lB (bn cs off (bg v)) ps vs else none:=rfl
def Rs (sz:Nat):Option (List PV)→Option AV
 | some els=>if els.all (fun e=>(bq e).length == sz) then some (.bJ els) else none
 | none=>none
theorem HX {sz:Nat} {els:List PV}:Rs sz (some els)=if els.all (fun e=>(bq e).length == sz) then some (.bJ els) else none:=rfl
theorem Dx {sz:Nat}:bW (.aR sz) vals=Rs sz (dT [] vals):=by
 show (dT [] vals).bind _=_
 cases dT [] vals<;>rfl
theorem HY {sz:Nat} {ag:Bool} {cs:List PV}:bW (.bL sz ag) [.dG cs]=da ag sz cs:=rfl
theorem Nc {l:List PV}:bW .len [.pv (.aE l)]=some (.pv (.int .i64 l.length)):=rfl
theorem KE {l:List PV}:bW .len [.bJ l]=some (.pv (.int .i64 l.length)):=rfl
theorem KF {l:List PV} {τ:Nat}:bW .len [.own l τ]=some (.pv (.int .i64 l.length)):=rfl
theorem KH {a b n:Nat} {d:Bool}:bW .len [.bz a b n d]=some (.pv (.int .i64 n)):=rfl
theorem KI {s:List UInt8}:bW .kq [.pv (.str s)]=some (.pv (.int .i64 s.length)):=rfl
theorem KJ {a b:Nat}:bW .bj [.aB a b]=some (.aB a b):=rfl
theorem KK {a b:Nat}:bW .bj [.aZ a b]=some (.aZ a b):=rfl
theorem KL {a:List PV}:bW .bj [.dG a]=some (.dG a):=rfl
theorem KM {a:Nat} {b:List AV}:bW .bj [.fn a b]=some (.fn a b):=rfl
theorem P3 {k k':IntKind} {x y:Int}:bW .mn [.pv (.int k x),.pv (.int k' y)]=if k=k' then some (.pv (.int k (if y<x then y else x))) else none:=rfl
theorem P4 {k k':IntKind} {x y:Int}:bW .mx [.pv (.int k x),.pv (.int k' y)]=if k=k' then some (.pv (.int k (if y > x then y else x))) else none:=rfl
theorem KN {g:Nat}:bW (.MH g) vals=some (.fn g vals):=by cases vals<;>rfl
theorem KO {k k':IntKind} {n:Int}:bW (.conv k) [.pv (.int k' n)]=some (.pv (.int k (k.wrap n))):=rfl
theorem Nd {b:Bool}:bW (.un .not) [.pv (.bool b)]=some (.pv (.bool !b)):=rfl
theorem Nf {k:IntKind} {n:Int}:bW (.un .neg) [.pv (.int k n)]=some (.pv (.int k (k.wrap (0-n)))):=rfl
theorem Ng {a b:Bool}:bW (.beq false) [.pv (.bool a),.pv (.bool b)]=some (.pv (.bool (a == b))):=rfl
theorem Nh {a b:Bool}:bW (.beq true) [.pv (.bool a),.pv (.bool b)]=some (.pv (.bool !(a == b))):=rfl
theorem Ni {k:IntKind} {a b:Int}:bW (.bin .add) [.pv (.int k a),.pv (.int k b)]=some (.pv (.int k (k.wrap (a+b)))):=by simp [bW,dM]
theorem Nj {k:IntKind} {a b:Int}:bW (.bin .sub) [.pv (.int k a),.pv (.int k b)]=some (.pv (.int k (k.wrap (a-b)))):=by simp [bW,dM]
theorem Nk {k:IntKind} {a b:Int}:bW (.bin .quo) [.pv (.int k a),.pv (.int k b)]=if b=0 then none else some (.pv (.int k (k.wrap (a.tdiv b)))):=by simp [bW,dM]
theorem Nl {k:IntKind} {a b:Int}:bW (.bin .rem) [.pv (.int k a),.pv (.int k b)]=if b=0 then none else some (.pv (.int k (a.tmod b))):=by simp [bW,dM]
theorem Nn {k:IntKind} {a b:Int}:bW (.bin .eql) [.pv (.int k a),.pv (.int k b)]=some (.pv (.bool (a == b))):=by simp [bW,dM]
theorem Np {k:IntKind} {a b:Int}:bW (.bin .neq) [.pv (.int k a),.pv (.int k b)]=some (.pv (.bool (a != b))):=by simp [bW,dM]
theorem Nq {k:IntKind} {a b:Int}:bW (.bin .lss) [.pv (.int k a),.pv (.int k b)]=some (.pv (.bool (decide (a<b)))):=by simp [bW,dM]
theorem Nr {k:IntKind} {a b:Int}:bW (.bin .leq) [.pv (.int k a),.pv (.int k b)]=some (.pv (.bool (decide (a≤b)))):=by simp [bW,dM]
theorem Ns {k:IntKind} {a b:Int}:bW (.bin .gtr) [.pv (.int k a),.pv (.int k b)]=some (.pv (.bool (decide (a > b)))):=by simp [bW,dM]
theorem Nt {k:IntKind} {a b:Int}:bW (.bin .geq) [.pv (.int k a),.pv (.int k b)]=some (.pv (.bool (decide (a≥b)))):=by simp [bW,dM]
theorem Nu {k:IntKind} {a b:Int}:bW (.bin .and) [.pv (.int k a),.pv (.int k b)]=some (.pv (.int k (k.wrap (BitVec.ofInt k.bits a &&& BitVec.ofInt k.bits b).toNat))):=by simp [bW,dM]
theorem Nv {k k':IntKind} {a b:Int}:bW (.bin .shr) [.pv (.int k a),.pv (.int k' b)]=if b<0 then none else some (.pv (.int k (a.fdiv (2 ^ (min b.toNat k.bits))))):=by simp [bW,dM]
theorem bK {a b:List UInt8}:bW (.bin .add) [.pv (.str a),.pv (.str b)]=if a.length+b.length≤9223372036854775807 then some (.pv (.str (a++b))) else none:=rfl
theorem KP {a b:List UInt8}:bW (.bin .eql) [.pv (.str a),.pv (.str b)]=some (.pv (.bool (a == b))):=rfl
theorem KQ {a b:List UInt8}:bW (.bin .neq) [.pv (.str a),.pv (.str b)]=some (.pv (.bool (!(a == b)))):=rfl
theorem KR {a b:List UInt8}:bW (.bin .lss) [.pv (.str a),.pv (.str b)]=some (.pv (.bool (dM.gX a b))):=rfl
theorem KU {a b:List UInt8}:bW (.bin .gtr) [.pv (.str a),.pv (.str b)]=some (.pv (.bool (!(dM.gX a b || a == b)))):=rfl
theorem HZ {sz:Nat} {lo hi mx:Bool} {x:AV} {rest:List AV}:bW (.slice false sz lo hi mx) (x::rest)=db false sz lo hi mx (x::rest):=rfl
theorem Dy {sz:Nat} {lo hi mx:Bool} {x:AV} {rest:List AV}:bW (.slice true sz lo hi mx) (x::rest)=db true sz lo hi mx (x::rest):=rfl
def nR (bl ks:Bool) (sh0 sh:Sh) (ae:aH):Option (List AV)→Option (List AV×Sh×aH)
 | some vs=>if (cS bl ks sh vs).all cp=true then
     some ((dE ae (cS bl ks sh vs) (if (cS bl ks sh vs).all (aM sh0.length)=true then (fp bl ks sh vs).take sh0.length else fp bl ks sh vs)).1,
       (dE ae (cS bl ks sh vs) (if (cS bl ks sh vs).all (aM sh0.length)=true then (fp bl ks sh vs).take sh0.length else fp bl ks sh vs)).2.1,
       (dE ae (cS bl ks sh vs) (if (cS bl ks sh vs).all (aM sh0.length)=true then (fp bl ks sh vs).take sh0.length else fp bl ks sh vs)).2.2.2) else none
 | none=>none
theorem zV {bl ks:Bool} {sh0:Sh} {vs:List AV}:nR bl ks sh0 sh ae (some vs)=if (cS bl ks sh vs).all cp=true then
     some ((dE ae (cS bl ks sh vs) (if (cS bl ks sh vs).all (aM sh0.length)=true then (fp bl ks sh vs).take sh0.length else fp bl ks sh vs)).1,
       (dE ae (cS bl ks sh vs) (if (cS bl ks sh vs).all (aM sh0.length)=true then (fp bl ks sh vs).take sh0.length else fp bl ks sh vs)).2.1,
       (dE ae (cS bl ks sh vs) (if (cS bl ks sh vs).all (aM sh0.length)=true then (fp bl ks sh vs).take sh0.length else fp bl ks sh vs)).2.2.2) else none:=rfl
def fin (bl ks:Bool) (rs:List rS) (sh0:Sh):Option (bo×St)→Option (List AV×Sh×aH)
 | some (.ret,st)=>nR bl ks sh0 st.sh st.ae (eG st rs)
 | some (.normal,st)=>nR bl ks sh0 st.sh st.ae (eG st rs)
 | _=>none
theorem Nw {bl ks:Bool} {rs:List rS} {sh0:Sh} {st:St}:fin bl ks rs sh0 (some (.ret,st))=nR bl ks sh0 st.sh st.ae (eG st rs):=rfl
theorem Dz {bl ks:Bool} {rs:List rS} {sh0:Sh} {st:St}:fin bl ks rs sh0 (some (.normal,st))=nR bl ks sh0 st.sh st.ae (eG st rs):=rfl
theorem Nx {bl ks:Bool} {rs:List rS} {sh0:Sh} {c:Prop} [Decidable c] {x y:Option (bo×St)}:fin bl ks rs sh0 (if c then x else y)=if c then fin bl ks rs sh0 x else fin bl ks rs sh0 y:=by split<;>rfl
theorem vh {bl:Bool} {af:aD} {sh0:Sh} {r:Option (bo×St)}:finish bl af sh0 r=fin bl af.ks af.results sh0 r:=by
 cases r with
 | none=>rfl
 | some q=>
   obtain ⟨e,st⟩:=q
   cases e with
   | ret=>simp only [finish,fin];cases eG st af.results<;>simp [nR]
   | normal=>simp only [finish,fin];cases eG st af.results<;>simp [nR]
   | exit id=>simp [finish,fin]
theorem DA {st:St}:eG st []=some []:=rfl
theorem zW {st:St} {r:rS} {rs:List rS}:eG st (r::rs)=oX (qj st r) (eG st rs):=by
 simp only [eG]
 cases qj st r<;>cases eG st rs<;>rfl
theorem Ny {st:St} {n:Nat}:qj st (.t n)=look st.env n:=rfl
def mT (key sz:Nat) (ag:Bool) (mem:List (Nat×List AV)) (sh:Sh):Option AV→Option AV
 | some (.aB d 0)=>xa key d sz ag (look mem key)
 | some (.aZ s 0)=>sQ ag sz 0 sh[s]?
 | _=>none
where xa (key d sz:Nat) (ag:Bool):Option (List AV)→Option AV
 | some cs=>if d=key then cA ag sz cs 0 else none
 | none=>none
theorem Nz {st:St} {key sz:Nat} {ag:Bool}:qj st (.c key sz ag)=mT key sz ag st.mem st.sh (look st.env key):=by
 simp only [qj]
 unfold mT
 split
 · rename_i h;rw [h];rfl
 · rename_i h;rw [h];rfl
 · rename_i h1 h2
   split
   · rename_i d e;exact absurd e (h1 d)
   · rename_i s e;exact absurd e (h2 s)
   · rfl
theorem xd {key sz d:Nat} {ag:Bool} {mem:List (Nat×List AV)}:mT key sz ag mem sh (some (.aB d 0))=mT.xa key d sz ag (look mem key):=rfl
theorem xe {key sz d:Nat} {ag:Bool} {cs:List AV}:mT.xa key d sz ag (some cs)=if d=key then cA ag sz cs 0 else none:=rfl
theorem zX {key sz s:Nat} {ag:Bool} {mem:List (Nat×List AV)}:mT key sz ag mem sh (some (.aZ s 0))=sQ ag sz 0 sh[s]?:=rfl
theorem xg {vs:List AV} {ks:Bool}:cS false ks sh vs=vs.map (rW sh):=rfl
theorem zY {vs:List AV}:cS true false sh vs=vs.map (pF sh):=rfl
theorem H0 {vs:List AV}:cS true true sh vs=vs:=rfl
theorem zZ {vs:List AV} {ks:Bool}:fp false ks sh vs=dY sh vs:=rfl
theorem DB {vs:List AV}:fp true false sh vs=dY sh vs:=rfl
theorem KX {vs:List AV}:fp true true sh vs=sh:=rfl
def KY (v:AV):Option PV→AV
 | some p=>.pv p
 | none=>v
theorem H3 {v:AV} {p:PV}:KY v (some p)=.pv p:=rfl
theorem H4 {v:AV}:KY v none=v:=rfl
theorem KZ {v:AV}:rW sh v=KY v (dL sh v):=rfl
theorem K0 {l:List PV}:pF sh (.bJ l)=.bJ l:=rfl
theorem K1 {l:List PV} {τ:Nat}:pF sh (.own l τ)=.own l τ:=rfl
theorem K2 {cs:List AV}:pF sh (.agg cs)=.agg (cs.map (nB sh)):=rfl
theorem NA {p:PV}:pF sh (.pv p)=.pv p:=rfl
theorem H5 {a b:Nat}:pF sh (.aZ a b)=.aZ a b:=rfl
theorem NB {a:Nat} {b:List AV}:pF sh (.fn a b)=.fn a b:=rfl
theorem H6:pF sh .dS=.dS:=rfl
theorem H7 {s:Nat}:pF sh (.dj s)=(.dj s):=rfl
theorem H8 {a b c:Nat} {d:Bool}:pF sh (.bz a b c d)=KY (.bz a b c d) (dL sh (.bz a b c d)):=rfl
theorem K3 {l:List PV}:nB sh (.bJ l)=.bJ l:=rfl
theorem K4 {l:List PV} {τ:Nat}:nB sh (.own l τ)=.pv (.aE l):=rfl
theorem H9 {b:Bool}:nB sh (.pv (.bool b))=.pv (.bool b):=rfl
theorem K5 {k:IntKind} {n:Int}:nB sh (.pv (.int k n))=.pv (.int k n):=rfl
theorem K6 {s:List UInt8}:nB sh (.pv (.str s))=.pv (.str s):=rfl
theorem K7 {l:List PV}:nB sh (.pv (.aE l))=.pv (.aE l):=rfl
theorem H_ {a b:Nat}:nB sh (.aZ a b)=.aZ a b:=rfl
theorem Ia:nB sh .dS=.dS:=rfl
theorem Ib {s:Nat}:nB sh (.dj s)=(.dj s):=rfl
theorem Ic {a b c:Nat} {d:Bool}:nB sh (.bz a b c d)=KY (.bz a b c d) (dL sh (.bz a b c d)):=rfl
theorem DC {vs:List AV}:dY sh vs=kill sh (vs.flatMap eP):=rfl
theorem K8:kill sh []=sh:=rfl
theorem Ie {b:Nat} {l:List Nat}:kill sh (b::l)=kill (sh.set b none) l:=rfl
theorem Ig {a b c:Nat} {d:Bool}:eP (.bz a b c d)=[a]:=rfl
theorem NC {p:PV}:eP (.pv p)=[]:=rfl
theorem K9 {l:List PV} {τ:Nat}:eP (.own l τ)=[]:=rfl
theorem K_ {l:List PV}:eP (.bJ l)=[]:=rfl
theorem Ih {a b:Nat}:eP (.aZ a b)=[]:=rfl
theorem ND {a:Nat} {b:List AV}:eP (.fn a b)=[]:=rfl
theorem Ii:eP .dS=[]:=rfl
theorem Ij {s:Nat}:eP (.dj s)=[]:=rfl
def nj:AV→List Nat
 | .bz b _ _ _=>[b]
 | _=>[]
theorem La {cs:List AV}:eP (.agg cs)=cs.flatMap nj:=by
 show cs.flatMap _=cs.flatMap nj
 congr 1
theorem DD {a b c:Nat} {d:Bool}:nj (.bz a b c d)=[a]:=rfl
theorem Lb {p:PV}:nj (.pv p)=[]:=rfl
theorem Ik {l:List PV} {τ:Nat}:nj (.own l τ)=[]:=rfl
theorem Il {l:List PV}:nj (.bJ l)=[]:=rfl
theorem DE {a b:Nat}:nj (.aZ a b)=[]:=rfl
theorem Lc {a:Nat} {b:List AV}:nj (.fn a b)=[]:=rfl
theorem DF:nj .dS=[]:=rfl
theorem DG {s:Nat}:nj (.dj s)=[]:=rfl
theorem DH:gq []=some []:=rfl
theorem z5 {p:PV} {r:List AV}:gq (.pv p::r)=oX (some p) (gq r):=by
 simp only [gq]
 cases gq r<;>rfl
def mU:Option (List AV×Sh×aH)→Option (List PV)
 | some (rs,_,_)=>gq rs
 | none=>none
theorem xh {rs:List AV} {t:aH}:mU (some (rs,sh,t))=gq rs:=rfl
theorem z6 {c:Prop} [Decidable c] {x y:Option (List AV×Sh×aH)}:mU (if c then x else y)=if c then mU x else mU y:=by split<;>rfl
theorem ah {g:Nat} {af:aD} {x:List PV} (hg:AP g=some af) (h1:x.length=af.nparams) (h2:af.nparams≤af.ntmps) (hp:af.pE=none:=by rfl) :
   (aL AP).p g x=mU (fin false af.ks af.results [] (cl AP af.body ⟨cK 0 (x.map .pv),[],[],[]⟩)):=by
 rw [OP hg hp h1 (by omega)]
 unfold ni mU
 rw [vh]
 cases fin false af.ks af.results [] (cl AP af.body ⟨cK 0 (x.map .pv),[],[],[]⟩)<;>rfl
theorem aP {g:Nat} {af:aD} {x:List AV} {ts:aH} (hg:AP g=some af) (h2:x.length≤af.ntmps) :
   (aL AP).i g x sh ts=fin true af.ks af.results sh (cl AP af.body ⟨cK 0 x,[],sh,ts⟩):=by
 rw [OQ hg h2,←vh]
 rfl
end
attribute [simp] F9 jv Bw Bx By Jy FU yV FV yW Bp wF FW Bq FX wG FY Br FZ F1 Bs wH yX Bt Jt MV Rl MW Ju Jv F6 F7 yZ Bu Bv F8 PT iB iL jt l6 y1 qM y3 kY iM jR mK mJ jS kM Gj JD jT uv Gk Gl JL Gz GA BI y5 GB nP BK y6 GC JN JO BL BN y9 JS GI GJ BO JT BP BQ GK y_ BS BT za M3 M4 JU pR BU zb GL BV M5 JV JW P0 M6 M7 GM M8 BW zc zd wL BX wM JY P1 JZ wP J3 GN J4 J5 J6 J7 J8 J9 J_ GO sT GP sU sV GQ BY GR BZ GS GU J' ze GV GY B6 B7 B8 B9 Kc B_ M_ zi Cb Cd re pS Ce Cf rf pT Cg GZ Kf Kg G8 G9 Hc Cn Co Cp Kk Cq look_nil He Kl Hf Hg Hh Hi e8 Cs wR uw Ct zk zm Cu Cv Cx Cy Cz zn zo Hj zp CA zt CB CC CD CE Hk Hl Hm Hn Ho CF CG Km CH Ko Kq Hp CL CM CN Kr Hq Hr CP Hs Ks Ht CQ CR CS Kt Hu Hy CZ Kx Hz HA C0 C1 Ky C2 Kz C4 HB HC C5 C6 zw zz zA HD C7 zB wS C8 vg C9 C_ zH HG zI zJ Db qO qP uy wV wW wX zM zN Dc wY wZ Dd w6 zP De sW Rp HH Df HI Na HJ Dg KA Dh HK Di HL Dj HN HR BM JP y8 PZ JQ GD JR GF GG b2sO_some bind_none bind_some Dk zR zT w8 aI P2 KD Nb HS Dl Dm Dn Dp zU HT Dq Dr Du Dv HU HV HW Dw HX Dx HY Nc KE KF KH KI KJ KK KL KM P3 P4 KN KO Nd Nf Ng Nh Ni Nj Nk Nl Nn Np Nq Nr Ns Nt Nu Nv bK KP KQ KR KU HZ Dy zV Nw Dz Nx DA zW Ny Nz xd xe zX xg zY H3 H4 KZ K0 K1 K2 NA H5 NB H6 H8 K3 K4 H9 K5 K6 K7 H_ Ia Ic DC K8 Ie Ig NC K9 K_ Ih ND Ii La DD Lb Ik Il DE Lc DF DH z5 xh z6 BR wO J0 B' Ca Cr zq CI CJ CO CT C3 zx zy zK zL w7 H7 Ib Ij DG Jz MX JA JB F' Ga MY Gb Gc Gd kN jw mL nE wJ uu sR Ge va HO HP KB HQ Gf Gg GH zg wQ B1 zh GW Ka GX B2 B3 Kb B4 B5 Ci zj G_ Kh Ha Cj Ck Ki Hb Cl Kj Cm CU zu Hv Ku Hw CV CW CX CY Kv Hx wU ux C' HE Da zD HF zE zF zG H0 zZ DB KX HM Gn JE Bz kP y4 JG JH Gp MZ JJ Gr Gt Gu Gv Gw Gq BB BC BD PO zQ Gx kO je Gy BE BF BG BH PS MS MT PQ Jr List.getElem?_cons_zero
theorem az {n:Int} (h1:-9223372036854775808≤n) (h2:n≤9223372036854775807):IntKind.i64.wrap n=n:=by
 simp [IntKind.wrap,IntKind.bits,IntKind.signed]
 omega
end Go.Ab.Ev
