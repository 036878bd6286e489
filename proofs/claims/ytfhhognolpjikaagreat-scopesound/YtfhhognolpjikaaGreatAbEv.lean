import Derived.Test.YtfhhognolpjikaaGreatAbLim
/-
  Rules for running slim code by the simplifier: each is an equation on constructors.
-/
set_option linter.unusedVariables false
set_option linter.unusedSimpArgs false
set_option maxRecDepth 100000
set_option maxHeartbeats 8000000
namespace Go.Ab.Ev
section
variable {AP:Nat→Option aH} {O:eI}
noncomputable def branch (AP:Nat→Option aH) (o:Option AV) (a b:aw) (st:St):Option (a6×St):=
 match o with
 | some (.pv (.bool t))=>if t=true then cl AP a st else cl AP b st
 | _=>none
theorem C8 {c:eH} {a b:aw} {st:St}:cl AP (.cond c a b) st=branch AP (gG st.env c) a b st:=by
 unfold branch
 split
 · rename_i t h
   rw [Kf h]
 · rename_i h
   unfold cl
   refine qz fun k=>?_
   simp only [du]
theorem we {t:Bool} {a b:aw} {st:St}:branch AP (some (.pv (.bool t))) a b st=if t=true then cl AP a st else cl AP b st:=rfl
def qD (live:List Nat):Option St→Option (a6×St)
 | some st=>some (.normal,restrict live st)
 | none=>none
theorem C_ {ops:List dV} {live:List Nat} {st:St}:cl AP (.ae ops live) st=qD live (bU (aP AP) ops st):=by
 rw [M7]
 cases bU (aP AP) ops st<;>rfl
theorem wg {live:List Nat} {st:St}:qD live (some st)=some (.normal,restrict live st):=rfl
theorem yQ {live:List Nat} {c:Prop} [Decidable c] {x y:Option St}:qD live (if c then x else y)=if c then qD live x else qD live y:=by split<;>rfl
theorem t4 {f:St→Option (a6×St)} {st:St}:after f (some (.normal,st))=f st:=rfl
theorem C' {f:St→Option (a6×St)} {st:St}:after f (some (.ret,st))=some (.ret,st):=rfl
theorem yR {f:St→Option (a6×St)} {st:St} {id:Nat}:after f (some (.exit id,st))=some (.exit id,st):=rfl
theorem Da {f:St→Option (a6×St)} {c:Prop} [Decidable c] {x y:Option (a6×St)}:after f (if c then x else y)=if c then after f x else after f y:=by split<;>rfl
theorem t5 {id:Nat} {st:St}:leave id (some (.normal,st))=some (.normal,st):=rfl
theorem Db {id:Nat} {st:St}:leave id (some (.ret,st))=some (.ret,st):=rfl
theorem yS {id id':Nat} {st:St}:leave id (some (.exit id',st))=if id'=id then some (.normal,st) else some (.exit id',st):=rfl
theorem Dc {id:Nat} {c:Prop} [Decidable c] {x y:Option (a6×St)}:leave id (if c then x else y)=if c then leave id x else leave id y:=by split<;>rfl
def lq (O:eI) (l:List dV):Option St→Option St
 | some st=>bU O l st
 | none=>none
theorem Dd {st:St}:bU O [] st=some st:=rfl
theorem jP {o:dV} {l:List dV} {st:St}:bU O (o::l) st=lq O l (eo O o st):=by
 simp only [bU]
 cases eo O o st<;>rfl
theorem yT {d:Option Nat} {args:List eH} {op:AK} {l:List dV} {st:St}:bU O (⟨d,none,args,op⟩::l) st=lq O l (eo O ⟨d,none,args,op⟩ st):=jP
theorem t6 {l:List dV} {st:St}:lq O l (some st)=bU O l st:=rfl
theorem wh {l:List dV} {c:Prop} [Decidable c] {x y:Option St}:lq O l (if c then x else y)=if c then lq O l x else lq O l y:=by split<;>rfl
def qE (d k:Option Nat) (env:List (Nat×AV)) (mem:List (Nat×List AV)):Option Out→Option St
 | some out=>some { env:=fW env d out.val,mem:=fh mem k out.cells,sh:=out.sh,ah:=out.ah }
 | none=>none
def Gy (O:eI) (op:AK) (vals:Option (List AV)) (cells:Option (List AV)) (sh:Sh) (ah:aL):Option Out:=
 match vals with
 | some vals=>exec O op vals cells sh ah
 | none=>none
theorem yU {d:Option Nat} {args:List eH} {op:AK} {env:List (Nat×AV)} {mem:List (Nat×List AV)} {sh:Sh} {ah:aL} :
   eo O ⟨d,none,args,op⟩ ⟨env,mem,sh,ah⟩=qE d op.key env mem (Gy O op (dX env args) (op.key.bind (look mem)) sh ah):=by
 simp only [eo,eX]
 cases dX env args with
 | none=>rfl
 | some vals=>
   dsimp only [Gy]
   cases exec O op vals (op.key.bind (look mem)) sh ah<;>rfl
def qF (t:Nat) (b:Bool) (o:dV):dV:=
 match o.guard with
 | some (t',b')=>if t'=t then (if b'=b then { o with guard:=none } else ⟨o.dst,none,[.c .un],.v .mv⟩) else o
 | none=>o
def De (t:Nat):List dV→Bool
 | []=>true
 | o::l=>(o.dst != some t) && De t l
theorem lr {α:Type} {t t':Nat} {v:α}:∀{l:List (Nat×α)},look (dC l t v) t'=if t'=t then some v else look l t'
 | []=>by
   simp only [dC,look]
   by_cases h:t'=t
   · subst h;simp
   · rw [if_neg (fun e=>h e.symm),if_neg h]
 | (k,u)::r=>by
   simp only [dC]
   by_cases hk:k=t
   · subst hk
     simp only [if_true,look]
     by_cases h:t'=k
     · subst h;simp
     · rw [if_neg (fun e=>h e.symm),if_neg h,if_neg (fun e=>h e.symm)]
   · rw [if_neg hk]
     simp only [look,lr (l:=r)]
     by_cases h:k=t'
     · subst h;simp [hk]
     · rw [if_neg h,if_neg h]
theorem nQ {α:Type} {t:Nat} {v:α}:∀{l:List (Nat×α)},look l t=some v→dC l t v=l
 | [],h=>by simp [look] at h
 | (k,u)::r,h=>by
   simp only [look] at h
   simp only [dC]
   split at h
   · rename_i e;cases h;rw [if_pos e]
   · rename_i e;rw [if_neg e,nQ h]
theorem Df {o:dV} {st st':St} {t:Nat} {v:AV} (hd:(o.dst != some t)=true) (h:look st.env t=some v) (e:eo O o st=some st'):look st'.env t=some v:=by
 have key:∀x,look (fW st.env o.dst x) t=some v:=by
   intro x
   cases hdd:o.dst with
   | none=>exact h
   | some d=>
     rw [hdd] at hd
     simp only [fW,lr]
     rw [if_neg (by intro e;subst e;simp at hd)]
     exact h
 simp only [eo] at e
 split at e
 · cases e
 · cases e;exact key _
 · split at e
   · cases e
   · split at e
     · cases e
     · cases e;exact key _
theorem Dg {o:dV} {st:St} {t:Nat} {b:Bool} (h:look st.env t=some (.pv (.bool b))):eo O o st=eo O (qF t b o) st:=by
 obtain ⟨d,g,args,op⟩:=o
 cases g with
 | none=>rfl
 | some p=>
   obtain ⟨t',b'⟩:=p
   simp only [qF]
   by_cases ht:t'=t
   · subst ht
     rw [if_pos rfl]
     by_cases hb:b'=b
     · subst hb
       rw [if_pos rfl]
       simp only [eo,eX,h,beq_self_eq_true]
     · rw [if_neg hb]
       have hb':(b == b')=false:=by simpa using fun e=>hb e.symm
       simp only [eo,eX,h,hb']
       obtain ⟨env,mem,sh,ah⟩:=st
       rfl
   · rw [if_neg ht]
theorem l_ {t:Nat} {b:Bool}:∀{l:List dV} {st:St},De t l=true→look st.env t=some (.pv (.bool b))→bU O l st=bU O (l.map (qF t b)) st
 | [],_,_,_=>rfl
 | o::l,st,hn,h=>by
   simp only [De,Bool.and_eq_true] at hn
   rw [List.map_cons,jP,jP,←Dg h]
   cases e:eo O o st with
   | none=>rfl
   | some st'=>exact l_ hn.2 (Df hn.1 h e)
theorem wi {d:Option Nat} {t:Nat} {b:Bool} {args:List eH} {op:AK} {l:List dV} {env:List (Nat×AV)} {mem:List (Nat×List AV)} {sh:Sh} {ah:aL} {c:Bool} (h:look env t=some (.pv (.bool c))) (hn:De t (⟨d,some (t,b),args,op⟩::l)=true) :
   bU O (⟨d,some (t,b),args,op⟩::l) ⟨env,mem,sh,ah⟩ =
     if c=true then bU O ((⟨d,some (t,b),args,op⟩::l).map (qF t true)) ⟨dC env t (.pv (.bool true)),mem,sh,ah⟩
     else bU O ((⟨d,some (t,b),args,op⟩::l).map (qF t false)) ⟨dC env t (.pv (.bool false)),mem,sh,ah⟩:=by
 cases c with
 | true=>rw [if_pos rfl,nQ h];exact l_ hn h
 | false=>rw [if_neg (by simp),nQ h];exact l_ hn h
theorem t7 {d:Option Nat} {t:Nat} {b:Bool} {args:List eH} {op:AK} {l:List dV} {env:List (Nat×AV)} {mem:List (Nat×List AV)} {sh:Sh} {ah:aL} (h:look env t=some .un) :
   bU O (⟨d,some (t,b),args,op⟩::l) ⟨env,mem,sh,ah⟩=bU O l ⟨fW env d .un,mem,sh,ah⟩:=by
 rw [jP]
 simp only [eo,eX,h]
 rfl
noncomputable def gd (O:eI) (t:Nat) (ops:List dV) (d:Option Nat) (l:List dV) (env:List (Nat×AV)) (mem:List (Nat×List AV)) (sh:Sh) (ah:aL):Option AV→Option St
 | some (.pv (.bool c))=>if De t ops=true then (if c=true then bU O (ops.map (qF t true)) ⟨dC env t (.pv (.bool true)),mem,sh,ah⟩
     else bU O (ops.map (qF t false)) ⟨dC env t (.pv (.bool false)),mem,sh,ah⟩) else bU O ops ⟨env,mem,sh,ah⟩
 | some .un=>bU O l ⟨fW env d .un,mem,sh,ah⟩
 | _=>bU O ops ⟨env,mem,sh,ah⟩
theorem Gz {d:Option Nat} {t:Nat} {b:Bool} {args:List eH} {op:AK} {l:List dV} {env:List (Nat×AV)} {mem:List (Nat×List AV)} {sh:Sh} {ah:aL} :
   bU O (⟨d,some (t,b),args,op⟩::l) ⟨env,mem,sh,ah⟩=gd O t (⟨d,some (t,b),args,op⟩::l) d l env mem sh ah (look env t):=by
 unfold gd
 split
 · rename_i c h
   split
   · rename_i hn;exact wi h hn
   · rfl
 · rename_i h;exact t7 h
 · rfl
theorem Kh {t:Nat} {ops:List dV} {d:Option Nat} {l:List dV} {env:List (Nat×AV)} {mem:List (Nat×List AV)} {sh:Sh} {ah:aL} {c:Bool}:gd O t ops d l env mem sh ah (some (.pv (.bool c))) =
   if De t ops=true then (if c=true then bU O (ops.map (qF t true)) ⟨dC env t (.pv (.bool true)),mem,sh,ah⟩
     else bU O (ops.map (qF t false)) ⟨dC env t (.pv (.bool false)),mem,sh,ah⟩) else bU O ops ⟨env,mem,sh,ah⟩:=rfl
theorem OE {t:Nat} {ops:List dV} {d:Option Nat} {l:List dV} {env:List (Nat×AV)} {mem:List (Nat×List AV)} {sh:Sh} {ah:aL}:gd O t ops d l env mem sh ah (some .un)=bU O l ⟨fW env d .un,mem,sh,ah⟩:=rfl
theorem Ki {t:Nat}:De t []=true:=rfl
theorem GA {t d:Nat} {g:Option (Nat×Bool)} {args:List eH} {op:AK} {l:List dV}:De t (⟨some d,g,args,op⟩::l)=(!(decide (d=t)) && De t l):=by
 simp only [De]
 congr 1
theorem GB {t:Nat} {g:Option (Nat×Bool)} {args:List eH} {op:AK} {l:List dV}:De t (⟨none,g,args,op⟩::l)=De t l:=by
 simp [De]
theorem Dh {t:Nat} {b:Bool} {d:Option Nat} {args:List eH} {op:AK}:qF t b ⟨d,none,args,op⟩=⟨d,none,args,op⟩:=rfl
theorem Di {t t':Nat} {b b':Bool} {d:Option Nat} {args:List eH} {op:AK}:qF t b ⟨d,some (t',b'),args,op⟩=if t'=t then (if b'=b then ⟨d,none,args,op⟩ else ⟨d,none,[.c .un],.v .mv⟩) else ⟨d,some (t',b'),args,op⟩:=rfl
theorem wj {d k:Option Nat} {env:List (Nat×AV)} {mem:List (Nat×List AV)} {v:AV} {cs:Option (List AV)} {sh:Sh} {ah:aL} :
   qE d k env mem (some ⟨v,cs,sh,ah⟩)=some ⟨fW env d v,fh mem k cs,sh,ah⟩:=rfl
theorem yV {d k:Option Nat} {env:List (Nat×AV)} {mem:List (Nat×List AV)} {c:Prop} [Decidable c] {x y:Option Out}:qE d k env mem (if c then x else y)=if c then qE d k env mem x else qE d k env mem y:=by split<;>rfl
theorem yW {op:AK} {vals:List AV} {cells:Option (List AV)} {sh:Sh} {ah:aL}:Gy O op (some vals) cells sh ah=exec O op vals cells sh ah:=rfl
def GC (sh:Sh) (ah:aL):Option AV→Option Out
 | some x=>some ⟨x,none,sh,ah⟩
 | none=>none
theorem Dj {sh:Sh} {ah:aL} {x:AV}:GC sh ah (some x)=some ⟨x,none,sh,ah⟩:=rfl
variable {vals:List AV} {cells:Option (List AV)} {sh:Sh} {ah:aL}
theorem M9 {o:Gc}:exec O (.v o) vals cells sh ah=GC sh ah (bM o vals):=by
 show (bM o vals).map _=_
 cases bM o vals<;>rfl
theorem gN {key off sz d o:Nat} {ag:Bool} {cs:List AV}:exec O (.bj key off sz ag) [.az d o] (some cs) sh ah=if d=key∧o=off then GC sh ah (b_ ag sz cs off) else none:=by
 show (if d=key∧o=off then (b_ ag sz cs off).map _ else none)=_
 cases b_ ag sz cs off<;>rfl
theorem gW {key off sz d o:Nat} {v:AV} {cs:List AV}:exec O (.cT key off sz) [.az d o,v] (some cs) sh ah =
   if d=key∧o=off∧(bn v).length=sz∧(bn v).all bf=true then if off+sz≤cs.length then some ⟨.un,some (bu cs off (bn v)),sh,ah⟩ else none else none:=rfl
theorem iI {key:Nat} {zero:List PV}:exec O (.alloc key zero) [] none sh ah=some ⟨.az key 0,some (zero.map bM.zeroCell),sh,ah⟩:=rfl
theorem kx {key sz:Nat} {v:AV}:exec O (.box key sz) [v] none sh ah=if (bn v).length=sz∧(bn v).all bf=true then some ⟨.az key 0,some (bn v),sh,ah⟩ else none:=rfl
theorem wm {sz:Nat} {ag:Bool} {cs:List PV}:exec O (.aZ sz ag) [.dm cs] cells sh ah=GC sh ah (cK ag sz cs):=by
 show (cK ag sz cs).map _=_
 cases cK ag sz cs<;>rfl
def qG (ag:Bool) (sz off:Nat):Option (Option (List AV))→Option AV
 | some (some cs)=>if cQ cs=true then none else b_ ag sz cs off
 | _=>none
theorem o7 {ag:Bool} {sz off:Nat} {cs:List AV}:qG ag sz off (some (some cs))=if cQ cs=true then none else b_ ag sz cs off:=rfl
theorem wo {sz b off:Nat} {ag:Bool}:exec O (.aZ sz ag) [.aX b off] cells sh ah=GC sh ah (qG ag sz off sh[b]?):=by
 show (match sh[b]? with | some (some cs)=>if cQ cs=true then none else (b_ ag sz cs off).map _ | _=>none)=_
 split
 · rename_i cs h
   rw [h,o7]
   split
   · rfl
   · cases b_ ag sz cs off<;>rfl
 · rename_i h
   unfold qG
   split
   · rename_i cs e;exact absurd e (h cs)
   · rfl
def t8 (b off sz:Nat) (vs:List AV) (sh:Sh) (ah:aL):Option (Option (List AV))→Option Out
 | some (some cs)=>if cQ cs=false∧vs.length=sz∧off+sz≤cs.length∧vs.all d4=true∧vs.all (aR (b+1))=true then some ⟨.un,none,sh.set b (some (bu cs off vs)),ah⟩ else none
 | _=>none
theorem m5 {b off sz:Nat} {vs cs:List AV}:t8 b off sz vs sh ah (some (some cs))=if cQ cs=false∧vs.length=sz∧off+sz≤cs.length∧vs.all d4=true∧vs.all (aR (b+1))=true then some ⟨.un,none,sh.set b (some (bu cs off vs)),ah⟩ else none:=rfl
theorem iZ {sz b off:Nat} {v:AV}:exec O (.cU sz) [.aX b off,v] cells sh ah=t8 b off sz (cf v) sh ah sh[b]?:=by
 show (match sh[b]? with | some (some cs)=>_ | _=>none)=_
 split
 · rename_i cs h
   rw [h,m5]
 · rename_i h
   unfold t8
   split
   · rename_i cs e;exact absurd e (h cs)
   · rfl
theorem kZ {sz:Nat} {v:AV}:exec O (.lS sz) [v] cells sh ah=if (cf v).length=sz∧(cf v).all d4=true∧(cf v).all (aR sh.length)=true then some ⟨.aX sh.length 0,none,sh++[some (cf v)],ah⟩ else none:=rfl
theorem i4 {zero:List PV}:exec O (.hH zero) [] cells sh ah=some ⟨.aX sh.length 0,none,sh++[some (zero.map bM.zeroCell)],ah⟩:=rfl
theorem jF {sz bytes:Nat} {ag:Bool} {zero:List PV} {k k':IntKind} {n n':Int}:exec O (.jg sz bytes ag zero) [.pv (.int k n),.pv (.int k' n')] cells sh ah =
   if n=n'∧0≤n∧n≤9223372036854775807∧n*bytes≤140737488355328∧zero.length=sz then some ⟨.bq sh.length sz n.toNat ag,none,sh++[some ((List.replicate n.toNat (zero.map .pv)).flatten)],ah⟩ else none:=rfl
theorem GD:cQ []=false:=rfl
theorem Kj {p:PV} {r:List AV}:cQ (.pv p::r)=false:=rfl
theorem GF {l:List PV} {r:List AV}:cQ (.bB l::r)=false:=rfl
theorem GG {l:List PV} {τ:Nat} {r:List AV}:cQ (.own l τ::r)=false:=rfl
theorem Dk {b o:Nat} {r:List AV}:cQ (.aX b o::r)=false:=rfl
theorem Dl {b z n:Nat} {ag:Bool} {r:List AV}:cQ (.bq b z n ag::r)=false:=rfl
theorem Kk {g:Nat} {c r:List AV}:cQ (.fn g c::r)=false:=rfl
theorem Dm {r:List AV}:cQ (.dk::r)=false:=rfl
theorem Dn {s:Nat} {r:List AV}:cQ (.cp s::r)=false:=rfl
theorem Dp {kvs:List (PV×PV)} {r:List AV}:cQ (.dj kvs::r)=true:=rfl
theorem jG:exec O .ki [] cells sh ah=some ⟨.cp sh.length,none,sh++[some [.dj []]],ah⟩:=rfl
def M_ (ok:Bool) (z:PV) (sh:Sh) (ah:aL):Option (Option PV)→Option Out
 | some r=>some ⟨ie ok z r,none,sh,ah⟩
 | none=>none
theorem Dq {ok:Bool} {z:PV} {r:Option PV}:M_ ok z sh ah (some r)=some ⟨ie ok z r,none,sh,ah⟩:=rfl
theorem t9 {z:PV} {r:Option PV}:ie true z r=.lI [.pv (r.getD z),.pv (.bool r.isSome)]:=rfl
theorem rZ {z:PV} {r:Option PV}:ie false z r=.pv (r.getD z):=rfl
def GH (c:CK) (ok:Bool) (z k:PV) (sh:Sh) (ah:aL):Option (Option (List AV))→Option Out
 | some (some [.dj kvs])=>M_ ok z sh ah (hU c kvs k)
 | _=>none
theorem qH {c:CK} {ok:Bool} {z k:PV} {kvs:List (PV×PV)}:GH c ok z k sh ah (some (some [.dj kvs]))=M_ ok z sh ah (hU c kvs k):=rfl
theorem iJ {c:CK} {ok:Bool} {z k:PV} {s:Nat}:exec O (.ix c ok z) [.cp s,.pv k] cells sh ah=GH c ok z k sh ah sh[s]?:=by
 show (match sh[s]? with | some (some [.dj kvs])=>(hU c kvs k).map _ | _=>none)=_
 split
 · rename_i kvs h
   rw [h,qH]
   cases hU c kvs k<;>rfl
 · rename_i h
   unfold GH
   split
   · rename_i kvs e;exact absurd e (h kvs)
   · rfl
def Na (s:Nat) (sh:Sh) (ah:aL):Option (List (PV×PV))→Option Out
 | some kvs=>some ⟨.un,none,sh.set s (some [.dj kvs]),ah⟩
 | none=>none
theorem Dr {s:Nat} {kvs:List (PV×PV)}:Na s sh ah (some kvs)=some ⟨.un,none,sh.set s (some [.dj kvs]),ah⟩:=rfl
def Nb (c:CK) (s:Nat) (k:PV) (sh:Sh) (ah:aL):Option (Option (List AV))→Option PV→Option Out
 | some (some [.dj kvs]),some p=>Na s sh ah (iQ c kvs k p)
 | _,_=>none
theorem sQ {c:CK} {s:Nat} {k p:PV} {kvs:List (PV×PV)}:Nb c s k sh ah (some (some [.dj kvs])) (some p)=Na s sh ah (iQ c kvs k p):=rfl
theorem la {c:CK} {k:PV} {s:Nat} {v:AV}:exec O (.mC c) [.cp s,.pv k,v] cells sh ah=Nb c s k sh ah sh[s]? (de [] v):=by
 show (match sh[s]?,de [] v with | some (some [.dj kvs]),some p=>(iQ c kvs k p).map _ | _,_=>none)=_
 split
 · rename_i kvs p h1 h2
   rw [h1,h2,sQ]
   cases iQ c kvs k p<;>rfl
 · rename_i h
   unfold Nb
   split
   · rename_i kvs p e1 e2;exact absurd e2 (h kvs p e1)
   · rfl
def Nc (neg:Bool):Option Bool→Option AV
 | some b=>some (.pv (.bool (if neg then !b else b)))
 | none=>none
theorem Du {neg b:Bool}:Nc neg (some b)=some (.pv (.bool (if neg then !b else b))):=rfl
def QC (cs:List CK) (neg:Bool):Option PV→Option PV→Option AV
 | some (.agg ps),some (.agg qs)=>Nc neg (dR cs ps qs)
 | _,_=>none
theorem Dv {cs:List CK} {neg:Bool} {ps qs:List PV}:QC cs neg (some (.agg ps)) (some (.agg qs))=Nc neg (dR cs ps qs):=rfl
def Dw (sh:Sh):Option (AV×aL)→Option Out
 | some (v,ts)=>some ⟨v,none,sh,ts⟩
 | none=>none
theorem Dx {v:AV} {ts:aL}:Dw sh (some (v,ts))=some ⟨v,none,sh,ts⟩:=rfl
theorem GI {c:Prop} [Decidable c] {x y:Option (AV×aL)}:Dw sh (if c then x else y)=if c then Dw sh x else Dw sh y:=by split<;>rfl
theorem i5 {sz bytes:Nat} {s x:AV}:exec O (.append sz bytes) [s,x] cells sh ah=Dw sh (cg sz bytes s x ah):=by
 show (cg sz bytes s x ah).map _=_
 cases cg sz bytes s x ah<;>rfl
theorem lZ {sz bytes:Nat} {x:AV}:exec O (.clone sz bytes) [x] cells sh ah=Dw sh (cg sz bytes (.bB []) x ah):=by
 show (cg sz bytes (.bB []) x ah).map _=_
 cases cg sz bytes (.bB []) x ah<;>rfl
def B3 (sz bytes:Nat) (s:AV) (ah:aL):Option (List PV)→Option (AV×aL)
 | some xs=>if bH sz xs=true then
   match s with
   | .bB l=>if xs.isEmpty=true then some (.bB l,ah) else if bH sz l=true∧(l.length+xs.length)*bytes≤140737488355328 then
       some (.own (l++xs) ah.length,ah++[(l++xs).length]) else none
   | .own l τ=>if ah[τ]?=some l.length∧bH sz l=true∧(l.length+xs.length)*bytes≤140737488355328 then
       some (.own (l++xs) τ,ah.set τ (l++xs).length) else none
   | _=>none
   else none
 | none=>none
theorem r5 {sz bytes:Nat} {s x:AV}:cg sz bytes s x ah=B3 sz bytes s ah (dS x):=by
 unfold cg B3
 cases dS x<;>rfl
theorem Dy {sz bytes:Nat} {l xs:List PV}:B3 sz bytes (.bB l) ah (some xs)=if bH sz xs=true then if xs.isEmpty=true then some (.bB l,ah) else if bH sz l=true∧(l.length+xs.length)*bytes≤140737488355328 then
       some (.own (l++xs) ah.length,ah++[(l++xs).length]) else none else none:=rfl
theorem Dz {sz bytes τ:Nat} {l xs:List PV}:B3 sz bytes (.own l τ) ah (some xs)=if bH sz xs=true then if ah[τ]?=some l.length∧bH sz l=true∧(l.length+xs.length)*bytes≤140737488355328 then
       some (.own (l++xs) τ,ah.set τ (l++xs).length) else none else none:=rfl
def DA (ah:aL):Option (AV×Sh)→Option Out
 | some (v,sh)=>some ⟨v,none,sh,ah⟩
 | none=>none
theorem DB {v:AV} {sh:Sh}:DA ah (some (v,sh))=some ⟨v,none,sh,ah⟩:=rfl
theorem GJ {c:Prop} [Decidable c] {x y:Option (AV×Sh)}:DA ah (if c then x else y)=if c then DA ah x else DA ah y:=by split<;>rfl
def GK (sz bytes:Nat) (ag:Bool) (s:AV) (sh:Sh) (ah:aL):Option (List PV)→Option Out
 | some xs=>if bH sz xs=true then DA ah (p_ sz bytes ag s xs sh ah) else none
 | none=>none
theorem yX {sz bytes:Nat} {ag:Bool} {s:AV} {xs:List PV}:GK sz bytes ag s sh ah (some xs)=if bH sz xs=true then DA ah (p_ sz bytes ag s xs sh ah) else none:=rfl
theorem jH {sz bytes:Nat} {ag:Bool} {s x:AV}:exec O (.c_ sz bytes ag) [s,x] cells sh ah=GK sz bytes ag s sh ah (dS x):=by
 simp only [exec,GK]
 cases dS x with
 | none=>rfl
 | some xs=>
   simp only
   split
   · cases p_ sz bytes ag s xs sh ah<;>rfl
   · rfl
def yY (sz bytes:Nat) (ag:Bool) (b z n:Nat) (g:Bool) (xs:List PV) (sh:Sh):Option (Option (List AV))→Option (AV×Sh)
 | some (some cells)=>if z=sz∧g=ag∧cQ cells=false∧n*sz≤cells.length∧(n+xs.length)*bytes≤140737488355328 then
       if xs.isEmpty=true then some (.bq b sz n ag,sh) else some (.bq sh.length sz (n+xs.length) ag,sh.set b none++[some (cells.take (n*sz)++(xs.flatMap bw).map .pv)])
     else none
 | _=>none
theorem wq {sz bytes:Nat} {ag:Bool} {b z n:Nat} {g:Bool} {xs:List PV} {cells:List AV}:yY sz bytes ag b z n g xs sh (some (some cells))=if z=sz∧g=ag∧cQ cells=false∧n*sz≤cells.length∧(n+xs.length)*bytes≤140737488355328 then
       if xs.isEmpty=true then some (.bq b sz n ag,sh) else some (.bq sh.length sz (n+xs.length) ag,sh.set b none++[some (cells.take (n*sz)++(xs.flatMap bw).map .pv)])
     else none:=rfl
theorem GL {sz bytes:Nat} {ag:Bool} {xs:List PV}:p_ sz bytes ag (.bB []) xs sh ah=yu sz bytes ag (.bB []) xs sh:=rfl
theorem GM {sz bytes τ:Nat} {ag:Bool} {xs:List PV}:p_ sz bytes ag (.own [] τ) xs sh ah=if ah[τ]?=some 0 then yu sz bytes ag (.own [] τ) xs sh else none:=rfl
theorem DC {sz bytes b z n:Nat} {ag g:Bool} {xs:List PV}:p_ sz bytes ag (.bq b z n g) xs sh ah=yY sz bytes ag b z n g xs sh sh[b]?:=by
 simp only [p_,yY]
 rcases sh[b]? with _ | _ | cells<;>rfl
theorem Kl {sz bytes:Nat} {ag:Bool} {s:AV} {xs:List PV}:yu sz bytes ag s xs sh=if xs.isEmpty=true then some (s,sh) else if xs.length*bytes≤140737488355328 then some (.bq sh.length sz xs.length ag,sh++[some ((xs.flatMap bw).map .pv)]) else none:=rfl
def Km (r:List Nat) (t:Nat) (st:St) (v:AV):Option PV→St
 | some p=>kj r { st with env:=dC st.env t (.pv p),sh:=d_ st.sh [v] }
 | none=>kj r (yv v st)
def B4 (d:Nat) (cs:List AV) (st:St):Option (List PV)→St
 | some ps=>{ st with mem:=dC st.mem d (ps.map .pv),sh:=d_ st.sh [.agg cs] }
 | none=>st
def GN (d:Nat) (st:St):Option (List AV)→St
 | some cs=>B4 d cs st (d8 st.sh cs)
 | none=>st
theorem DD {d:Nat} {st:St}:yv (.az d 0) st=GN d st (look st.mem d):=by
 simp only [yv]
 cases look st.mem d with
 | none=>rfl
 | some cs=>
   simp only [GN]
   cases d8 st.sh cs<;>rfl
theorem yZ {d:Nat} {st:St} {cs:List AV}:GN d st (some cs)=B4 d cs st (d8 st.sh cs):=rfl
theorem y1 {d:Nat} {st:St} {cs:List AV} {ps:List PV}:B4 d cs st (some ps)={ st with mem:=dC st.mem d (ps.map .pv),sh:=d_ st.sh [.agg cs] }:=rfl
theorem y2 {d:Nat} {st:St} {cs:List AV}:B4 d cs st none=st:=rfl
def Ko (r:List Nat) (t:Nat) (st:St):Option AV→St
 | some v=>Km r t st v (de st.sh v)
 | none=>kj r st
theorem GO {st:St}:kj [] st=st:=rfl
theorem DE {t:Nat} {r:List Nat} {st:St}:kj (t::r) st=Ko r t st (look st.env t):=by
 simp only [kj]
 cases look st.env t with
 | none=>rfl
 | some v=>
   simp only [Ko]
   cases de st.sh v<;>rfl
theorem DF {r:List Nat} {t:Nat} {st:St} {v:AV}:Ko r t st (some v)=Km r t st v (de st.sh v):=rfl
theorem DG {r:List Nat} {t:Nat} {st:St}:Ko r t st none=kj r st:=rfl
theorem DH {r:List Nat} {t:Nat} {st:St} {v:AV} {p:PV}:Km r t st v (some p)=kj r { st with env:=dC st.env t (.pv p),sh:=d_ st.sh [v] }:=rfl
theorem DI {r:List Nat} {t:Nat} {st:St} {v:AV}:Km r t st v none=kj r (yv v st):=rfl
def Nd (ah:aL):Option Sh→Option Out
 | some sh=>some ⟨.lI [],none,sh,ah⟩
 | none=>none
theorem DJ {sh:Sh}:Nd ah (some sh)=some ⟨.lI [],none,sh,ah⟩:=rfl
def qI (sz:Nat) (zero:List PV) (sh:Sh) (b off n:Nat):Option (Option (List AV))→Option Sh
 | some (some cells)=>if cQ cells=false∧off+n*sz≤cells.length∧zero.length=sz then some (sh.set b (some (bu cells off (List.replicate n (zero.map .pv)).flatten))) else none
 | _=>none
theorem wt {sz b off n:Nat} {zero:List PV} {cells:List AV}:qI sz zero sh b off n (some (some cells))=if cQ cells=false∧off+n*sz≤cells.length∧zero.length=sz then some (sh.set b (some (bu cells off (List.replicate n (zero.map .pv)).flatten))) else none:=rfl
theorem t_ {sz b n:Nat} {ag:Bool} {zero:List PV}:exec O (.fR sz zero) [.bq b sz n ag] cells sh ah=Nd ah (qI sz zero sh b 0 n sh[b]?):=by
 simp only [exec,p9,if_true,lT]
 rcases sh[b]? with _ | _ | cs
 · rfl
 · rfl
 · simp only [qI]
   split<;>rfl
theorem ua {sz b off n:Nat} {zero:List PV}:exec O (.fR sz zero) [.lH b off n] cells sh ah=Nd ah (qI sz zero sh b off n sh[b]?):=by
 simp only [exec,p9,lT]
 rcases sh[b]? with _ | _ | cs
 · rfl
 · rfl
 · simp only [qI]
   split<;>rfl
theorem y3 {s:Nat} {z:List PV}:AK.key (.fR s z)=none:=rfl
theorem y4 {sz b n:Nat} {ag lo hi:Bool} {rest:List AV}:bM (.p6 sz lo hi) (.bq b sz n ag::rest)=jj sz lo hi (.bq b sz n ag::rest):=rfl
theorem y5 {aQ ts:aL} {a b c:Nat}:bP aQ ts (.lH a b c)=(.lH a b c,aQ,ts):=rfl
theorem y6 {live:List Nat} {a b c:Nat}:d9 live (.lH a b c)=true:=rfl
theorem GP {l:List PV}:dS (.pv (.aD l))=some l:=rfl
theorem DK {l:List PV}:dS (.bB l)=some l:=rfl
theorem DL {l:List PV} {τ:Nat}:dS (.own l τ)=some l:=rfl
theorem y7 {sz:Nat}:bH sz []=true:=rfl
theorem wu {sz:Nat} {p:PV} {r:List PV}:bH sz (p::r)=((bw p).length == sz):=rfl
def Nf (sh:Sh) (ah:aL):Option (List PV)→Option Out
 | some rs=>some ⟨pw rs,none,sh,ah⟩
 | none=>none
theorem DM {rs:List PV}:Nf sh ah (some rs)=some ⟨pw rs,none,sh,ah⟩:=rfl
def GQ (O:eI) (g:Nat):Option (List PV)→Option (List PV)
 | some dt=>O.p g dt
 | none=>none
theorem mc {g:Nat} {dt:List PV}:GQ O g (some dt)=O.p g dt:=rfl
theorem y8 {g:Nat}:exec O (.aB g) vals cells sh ah=Nf sh ah (GQ O g (cV [] vals)):=by
 show (match cV [] vals with | some dt=>_ | none=>none)=_
 split
 · rename_i dt h
   rw [h,mc]
   cases O.p g dt<;>rfl
 · rename_i h;rw [h];rfl
theorem wv {g:Nat}:exec O (.dW g) vals cells sh ah=Nf (d_ sh vals) ah (GQ O g (cV sh vals)):=by
 show (match cV sh vals with | some dt=>_ | none=>none)=_
 split
 · rename_i dt h
   rw [h,mc]
   cases O.p g dt<;>rfl
 · rename_i h;rw [h];rfl
def Ng (n:Nat) (ts0:aL):Option (List AV×Sh×aL)→Option Out
 | some (rs,sh',ts)=>some ⟨mE (rs.map (cz n)),none,eB n sh',ts0++ts⟩
 | none=>none
theorem DN {n:Nat} {ts0:aL} {rs:List AV} {sh':Sh} {ts:aL}:Ng n ts0 (some (rs,sh',ts))=some ⟨mE (rs.map (cz n)),none,eB n sh',ts0++ts⟩:=rfl
def B5 (O:eI) (g n:Nat) (q:List AV×Sh×aL×aL):Option Out:=Ng n q.2.2.1 (O.i g q.1 q.2.1 q.2.2.2)
theorem GR {g n:Nat} {a:List AV} {s:Sh} {o t:aL}:B5 O g n (a,s,o,t)=Ng n o (O.i g a s t):=rfl
def wx (O:eI) (g:Nat) (args:List AV) (sh:Sh) (ah:aL):Option Out:=
 if args.all bX=true then B5 O g ah.length (cZ ah args sh) else none
theorem GS {g:Nat} {args:List AV}:wx O g args sh ah=if args.all bX=true then B5 O g ah.length (cZ ah args sh) else none:=rfl
theorem o8 {g:Nat} {own:List Nat}:(en O g own vals sh ah).map (fun (v,sh',ts)=>(⟨v,none,sh',ts⟩:Out))=wx O g (eC own 0 vals) sh ah:=by
 unfold en wx B5
 split
 · cases O.i g (cZ ah (eC own 0 vals) sh).1 (cZ ah (eC own 0 vals) sh).2.1 (cZ ah (eC own 0 vals) sh).2.2.2 with
   | none=>rfl
   | some q=>obtain ⟨a,b,c⟩:=q;rfl
 · rfl
theorem y9 {g:Nat} {own:List Nat}:exec O (.aI g own) vals cells sh ah=wx O g (eC own 0 vals) sh ah:=o8
theorem eg {g:Nat} {cap:List AV}:exec O .eK (.fn g cap::vals) cells sh ah=wx O g (eC [] 0 (vals++cap)) sh ah:=o8 (vals:=vals++cap)
def OF (sh:Sh) (ah:aL):Option (List AV×Sh×aL)→Option Out
 | some (rs,[],ts)=>some ⟨mE (rs.map (cz ah.length)),none,sh,ah++ts⟩
 | _=>none
theorem DO {rs:List AV} {ts:aL}:OF sh ah (some (rs,[],ts))=some ⟨mE (rs.map (cz ah.length)),none,sh,ah++ts⟩:=rfl
def GU (O:eI) (g:Nat):Option (List PV)→Option (List AV×Sh×aL)
 | some dt=>O.i g (dt.map .pv) [] []
 | none=>none
theorem o9 {g:Nat} {dt:List PV}:GU O g (some dt)=O.i g (dt.map .pv) [] []:=rfl
theorem y_ {g:Nat}:exec O (.jh g) vals cells sh ah=OF sh ah (GU O g (cV [] vals)):=by
 show (match cV [] vals with | some dt=>_ | none=>none)=_
 split
 · rename_i dt h
   rw [h,o9]
   cases O.i g (dt.map .pv) [] [] with
   | none=>rfl
   | some q=>
     obtain ⟨a,b,c⟩:=q
     cases b<;>rfl
 · rename_i h;rw [h];rfl
theorem za {own:List Nat} {i:Nat}:eC own i []=[]:=rfl
theorem wy {own:List Nat} {i:Nat} {v:AV} {r:List AV}:eC own i (v::r)=(if own.contains i then v else iR v)::eC own (i+1) r:=rfl
theorem GV {p:PV}:iR (.pv p)=.pv p:=rfl
theorem DP {l:List PV}:iR (.bB l)=.pv (.aD l):=rfl
theorem DQ {l:List PV} {τ:Nat}:iR (.own l τ)=.pv (.aD l):=rfl
theorem zb {b o:Nat}:iR (.aX b o)=.aX b o:=rfl
theorem GW {g:Nat} {cap:List AV}:iR (.fn g cap)=.fn g cap:=rfl
theorem zc {b s n:Nat} {ag:Bool}:iR (.bq b s n ag)=.bq b s n ag:=rfl
theorem zd:iR .dk=.dk:=rfl
theorem ze {s:Nat}:iR (.cp s)=(.cp s):=rfl
def uc (cs:List AV):Option (List PV)→AV
 | some ps=>.pv (.agg ps)
 | none=>.agg cs
theorem DR {cs:List AV}:iR (.agg cs)=uc cs (d8 [] cs):=by
 have h:de [] (.agg cs)=(d8 [] cs).map .agg:=rfl
 unfold iR uc
 rw [h]
 cases d8 [] cs<;>rfl
theorem wz {cs:List AV} {ps:List PV}:uc cs (some ps)=.pv (.agg ps):=rfl
def m7 {α:Type}:Option α→Option (List α)→Option (List α)
 | some x,some l=>some (x::l)
 | _,_=>none
theorem zg {α:Type} {x:α} {l:List α}:m7 (some x) (some l)=some (x::l):=rfl
theorem zh {env:List (Nat×AV)}:dX env []=some []:=rfl
theorem wA {env:List (Nat×AV)} {x:eH} {r:List eH}:dX env (x::r)=m7 (gG env x) (dX env r):=by
 simp only [dX]
 cases gG env x<;>cases dX env r<;>rfl
theorem Kq {env:List (Nat×AV)} {n:Nat}:gG env (.t n)=look env n:=rfl
theorem Kr {env:List (Nat×AV)} {v:AV}:gG env (.c v)=some v:=rfl
theorem GX:eL []=some []:=rfl
theorem nR {v:AV} {r:List AV}:eL (v::r)=m7 (ji v) (eL r):=by
 simp only [eL]
 cases ji v<;>cases eL r<;>rfl
theorem zi:cV sh []=some []:=rfl
theorem wB {v:AV} {r:List AV}:cV sh (v::r)=m7 (de sh v) (cV sh r):=by
 simp only [cV]
 cases de sh v<;>cases cV sh r<;>rfl
theorem DS:d8 sh []=some []:=rfl
theorem zj {v:AV} {r:List AV}:d8 sh (v::r)=if bf v=true then m7 (da sh v) (d8 sh r) else none:=by
 simp only [d8]
 split
 · cases da sh v<;>cases d8 sh r<;>rfl
 · rfl
theorem Ks {p:PV}:ji (.pv p)=some p:=rfl
theorem GY {l:List PV}:ji (.bB l)=some (.aD l):=rfl
theorem GZ {l:List PV} {τ:Nat}:ji (.own l τ)=some (.aD l):=rfl
theorem Nh {p:PV}:de sh (.pv p)=some p:=rfl
theorem Kt {l:List PV}:de sh (.bB l)=some (.aD l):=rfl
theorem Ku {l:List PV} {τ:Nat}:de sh (.own l τ)=some (.aD l):=rfl
def OG:Option (List PV)→Option PV
 | some ps=>some (.agg ps)
 | none=>none
theorem DT {ps:List PV}:OG (some ps)=some (.agg ps):=rfl
theorem Kv {cs:List AV}:de sh (.agg cs)=OG (d8 sh cs):=by
 simp only [de]
 cases d8 sh cs<;>rfl
theorem zk {p:PV}:da sh (.pv p)=some p:=rfl
theorem wC {l:List PV}:da sh (.bB l)=some (.aD l):=rfl
theorem wD {l:List PV} {τ:Nat}:da sh (.own l τ)=some (.aD l):=rfl
theorem ud {b o:Nat}:da sh (.aX b o)=none:=rfl
theorem zm {g:Nat} {c:List AV}:da sh (.fn g c)=none:=rfl
theorem ue:da sh .dk=none:=rfl
theorem uf {s:Nat}:da sh (.cp s)=none:=rfl
theorem G6 {b o:Nat}:de sh (.aX b o)=none:=rfl
theorem Ni {g:Nat} {c:List AV}:de sh (.fn g c)=none:=rfl
theorem G7:de sh .dk=none:=rfl
theorem G8 {s:Nat}:de sh (.cp s)=none:=rfl
def Kx (sz n:Nat) (ag:Bool):Option (Option (List AV))→Option PV
 | some (some cells)=>if cells.length=n*sz then ((eL cells).bind (eA sz ag n)).map .aD
   else if cQ cells=false∧n*sz≤cells.length then ((eL (cells.take (n*sz))).bind (eA sz ag n)).map .aD else none
 | _=>none
theorem ug {b sz n:Nat} {ag:Bool}:da sh (.bq b sz n ag)=Kx sz n ag sh[b]?:=rfl
theorem G9 {b sz n:Nat} {ag:Bool}:de sh (.bq b sz n ag)=Kx sz n ag sh[b]?:=rfl
theorem DU {sz n:Nat} {ag:Bool} {cells:List AV}:Kx sz n ag (some (some cells))=if cells.length=n*sz then ((eL cells).bind (eA sz ag n)).map .aD else if cQ cells=false∧n*sz≤cells.length then ((eL (cells.take (n*sz))).bind (eA sz ag n)).map .aD else none:=rfl
theorem G_ {r:PV}:pw [r]=.pv r:=rfl
theorem Ha:pw []=.lI []:=rfl
theorem Hb {a b:PV} {r:List PV}:pw (a::b::r)=.lI (.pv a::.pv b::r.map .pv):=rfl
theorem Hc {r:AV}:mE [r]=r:=rfl
theorem He:mE []=.lI []:=rfl
theorem Hf {a b:AV} {r:List AV}:mE (a::b::r)=.lI (a::b::r):=rfl
theorem Hg {xs:List AV}:cZ ah xs sh=((bz ah [] xs).1,(bC (bz ah [] xs).2.1 (bz ah [] xs).2.2 sh).1,(bC (bz ah [] xs).2.1 (bz ah [] xs).2.2 sh).2.1,(bC (bz ah [] xs).2.1 (bz ah [] xs).2.2 sh).2.2):=rfl
theorem DV {aQ ts:aL}:bz aQ ts []=([],aQ,ts):=rfl
theorem qJ {aQ ts:aL} {v:AV} {r:List AV}:bz aQ ts (v::r)=((bP aQ ts v).1::(bz (bP aQ ts v).2.1 (bP aQ ts v).2.2 r).1,(bz (bP aQ ts v).2.1 (bP aQ ts v).2.2 r).2):=rfl
theorem DW {aQ ts:aL}:bC aQ ts []=([],aQ,ts):=rfl
theorem qK {aQ ts:aL} {r:Sh}:bC aQ ts (none::r)=(none::(bC aQ ts r).1,(bC aQ ts r).2):=rfl
theorem qL {aQ ts:aL} {cs:List AV} {r:Sh}:bC aQ ts (some cs::r)=(some (bz aQ ts cs).1::(bC (bz aQ ts cs).2.1 (bz aQ ts cs).2.2 r).1,(bC (bz aQ ts cs).2.1 (bz aQ ts cs).2.2 r).2):=rfl
theorem DX {aQ ts:aL}:dp aQ ts []=([],aQ,ts):=rfl
theorem zn {aQ ts:aL} {t:Nat} {v:AV} {r:List (Nat×AV)}:dp aQ ts ((t,v)::r)=((t,(bP aQ ts v).1)::(dp (bP aQ ts v).2.1 (bP aQ ts v).2.2 r).1,(dp (bP aQ ts v).2.1 (bP aQ ts v).2.2 r).2):=rfl
theorem DY {aQ ts:aL}:eO aQ ts []=([],aQ,ts):=rfl
theorem zo {aQ ts:aL} {t:Nat} {v:List AV} {r:List (Nat×List AV)}:eO aQ ts ((t,v)::r)=((t,(bz aQ ts v).1)::(eO (bz aQ ts v).2.1 (bz aQ ts v).2.2 r).1,(eO (bz aQ ts v).2.1 (bz aQ ts v).2.2 r).2):=rfl
theorem DZ {aQ ts:aL} {l:List PV} {τ:Nat}:bP aQ ts (.own l τ)=if aQ[τ]?=some l.length then (.own l ts.length,aQ.set τ (l.length+1),ts++[l.length]) else (.pv (.aD l),aQ,ts):=rfl
theorem D0 {aQ ts:aL} {l:List PV}:bP aQ ts (.bB l)=(.own l ts.length,aQ,ts++[l.length]):=rfl
theorem Hh {aQ ts:aL}:bP aQ ts .un=(.un,aQ,ts):=rfl
theorem wE {aQ ts:aL} {p:PV}:bP aQ ts (.pv p)=(.pv p,aQ,ts):=rfl
def zp (aQ ts:aL) (p:List AV):Bool→AV×aL×aL
 | true=>(.agg p,aQ,ts)
 | false=>(.agg (cL aQ ts p).1,(cL aQ ts p).2.1,(cL aQ ts p).2.2)
theorem D1 {aQ ts:aL} {p:List AV}:bP aQ ts (.agg p)=zp aQ ts p (bE.dQ p):=by
 simp only [bP]
 cases bE.dQ p<;>rfl
theorem wF {aQ ts:aL} {p:List AV}:zp aQ ts p true=(.agg p,aQ,ts):=rfl
theorem uh {aQ ts:aL} {p:List AV}:zp aQ ts p false=(.agg (cL aQ ts p).1,(cL aQ ts p).2.1,(cL aQ ts p).2.2):=rfl
theorem zq {aQ ts:aL}:cL aQ ts []=([],aQ,ts):=rfl
theorem wG {aQ ts:aL} {v:AV} {r:List AV}:cL aQ ts (v::r)=((dz aQ ts v).1::(cL (dz aQ ts v).2.1 (dz aQ ts v).2.2 r).1,(cL (dz aQ ts v).2.1 (dz aQ ts v).2.2 r).2):=rfl
theorem D2 {aQ ts:aL} {l:List PV} {τ:Nat}:dz aQ ts (.own l τ)=if aQ[τ]?=some l.length then (.own l ts.length,aQ.set τ (l.length+1),ts++[l.length]) else (.pv (.aD l),aQ,ts):=rfl
theorem Hi {aQ ts:aL} {p:PV}:dz aQ ts (.pv p)=(.pv p,aQ,ts):=rfl
theorem D3 {aQ ts:aL} {p:List PV}:dz aQ ts (.bB p)=(.bB p,aQ,ts):=rfl
theorem zs {aQ ts:aL} {a b:Nat}:dz aQ ts (.aX a b)=(.aX a b,aQ,ts):=rfl
theorem zt {aQ ts:aL} {a b c:Nat} {d:Bool}:dz aQ ts (.bq a b c d)=(.bq a b c d,aQ,ts):=rfl
theorem Hj {aQ ts:aL} {a:Nat} {c:List AV}:dz aQ ts (.fn a c)=(.fn a c,aQ,ts):=rfl
theorem zu {aQ ts:aL}:dz aQ ts .dk=(.dk,aQ,ts):=rfl
theorem zw {s:Nat} {aQ ts:aL}:dz aQ ts (.cp s)=((.cp s),aQ,ts):=rfl
theorem D4 {aQ ts:aL} {p:List AV}:bP aQ ts (.lI p)=(.lI p,aQ,ts):=rfl
theorem zx {aQ ts:aL} {a b:Nat}:bP aQ ts (.az a b)=(.az a b,aQ,ts):=rfl
theorem zy {aQ ts:aL} {a b:Nat}:bP aQ ts (.aX a b)=(.aX a b,aQ,ts):=rfl
theorem zz {aQ ts:aL} {a:List PV}:bP aQ ts (.dm a)=(.dm a,aQ,ts):=rfl
theorem zA {aQ ts:aL} {a b c:Nat} {d:Bool}:bP aQ ts (.bq a b c d)=(.bq a b c d,aQ,ts):=rfl
theorem Hk {aQ ts:aL} {a:Nat} {c:List AV}:bP aQ ts (.fn a c)=(.fn a c,aQ,ts):=rfl
theorem zB {aQ ts:aL}:bP aQ ts .dk=(.dk,aQ,ts):=rfl
theorem zD {s:Nat} {aQ ts:aL}:bP aQ ts (.cp s)=((.cp s),aQ,ts):=rfl
theorem zE {s:List (PV×PV)} {aQ ts:aL}:bP aQ ts (.dj s)=((.dj s),aQ,ts):=rfl
theorem Ky {env:List (Nat×AV)} {mem:List (Nat×List AV)}:norm ⟨env,mem,sh,ah⟩ =
   { env:=(dp ah [] env).1,
     mem:=(eO (dp ah [] env).2.1 (dp ah [] env).2.2 mem).1,
     sh:=(bC (eO (dp ah [] env).2.1 (dp ah [] env).2.2 mem).2.1 (eO (dp ah [] env).2.1 (dp ah [] env).2.2 mem).2.2 sh).1,
     ah:=(bC (eO (dp ah [] env).2.1 (dp ah [] env).2.2 mem).2.1 (eO (dp ah [] env).2.1 (dp ah [] env).2.2 mem).2.2 sh).2.2 }:=rfl
theorem wH {live:List Nat} {env:List (Nat×AV)} {mem:List (Nat×List AV)}:restrict live ⟨env,mem,sh,ah⟩=⟨bV live env live,bW mem live,sh,ah⟩:=rfl
def Hl (live:List Nat) (t:Nat) (rest:List (Nat×AV)):Option AV→List (Nat×AV)
 | some v=>if d9 live v=true then (t,v)::rest else rest
 | none=>rest
theorem zF {live:List Nat} {t:Nat} {rest:List (Nat×AV)} {v:AV}:Hl live t rest (some v)=if d9 live v=true then (t,v)::rest else rest:=rfl
theorem zG {live:List Nat} {t:Nat} {rest:List (Nat×AV)}:Hl live t rest none=rest:=rfl
theorem pB {live:List Nat} {env:List (Nat×AV)}:bV live env []=[]:=rfl
theorem nU {live:List Nat} {env:List (Nat×AV)} {t:Nat} {r:List Nat}:bV live env (t::r)=Hl live t (bV live env r) (look env t):=by
 show (match look env t with | some v=>_ | none=>_)=_
 cases look env t<;>rfl
def Hm (t:Nat) (rest:List (Nat×List AV)):Option (List AV)→List (Nat×List AV)
 | some v=>(t,v)::rest
 | none=>rest
theorem zH {t:Nat} {rest:List (Nat×List AV)} {v:List AV}:Hm t rest (some v)=(t,v)::rest:=rfl
theorem zI {t:Nat} {rest:List (Nat×List AV)}:Hm t rest none=rest:=rfl
theorem pD {mem:List (Nat×List AV)}:bW mem []=[]:=rfl
theorem nW {mem:List (Nat×List AV)} {t:Nat} {r:List Nat}:bW mem (t::r)=Hm t (bW mem r) (look mem t):=by
 show (match look mem t with | some v=>_ | none=>_)=_
 cases look mem t<;>rfl
theorem zJ {live:List Nat} {d o:Nat}:d9 live (.az d o)=live.contains d:=rfl
theorem D5 {live:List Nat} {l:List PV} {τ:Nat}:d9 live (.own l τ)=true:=rfl
theorem Hn {live:List Nat}:d9 live .un=true:=rfl
theorem Ho {live:List Nat} {p:PV}:d9 live (.pv p)=true:=rfl
theorem D6 {live:List Nat} {l:List PV}:d9 live (.bB l)=true:=rfl
theorem D7 {live:List Nat} {l:List AV}:d9 live (.agg l)=fF l:=rfl
theorem zL:fF []=true:=rfl
theorem wI {v:AV} {r:List AV}:fF (v::r)=(gE v && fF r):=rfl
theorem D9 {l:List PV} {τ:Nat}:gE (.own l τ)=true:=rfl
theorem Hp {p:PV}:gE (.pv p)=true:=rfl
theorem D_ {l:List PV}:gE (.bB l)=true:=rfl
theorem zM {a b:Nat}:gE (.aX a b)=true:=rfl
theorem zN {a b c:Nat} {d:Bool}:gE (.bq a b c d)=true:=rfl
theorem Hq {a:Nat} {c:List AV}:gE (.fn a c)=bE.dQ c:=rfl
theorem D' {c:List AV}:gE (.agg c)=bE.dQ c:=rfl
theorem zP:gE .dk=true:=rfl
theorem Hr:gE .un=true:=rfl
theorem zQ {s:Nat}:gE (.cp s)=true:=rfl
theorem Ea {live:List Nat} {l:List AV}:d9 live (.lI l)=bE.dQ l:=rfl
theorem zR {live:List Nat} {a b:Nat}:d9 live (.aX a b)=true:=rfl
theorem zT {live:List Nat} {a:List PV}:d9 live (.dm a)=true:=rfl
theorem zU {live:List Nat} {a b c:Nat} {d:Bool}:d9 live (.bq a b c d)=true:=rfl
theorem Hs {live:List Nat} {a:Nat} {c:List AV}:d9 live (.fn a c)=bE.dQ c:=rfl
theorem zV {live:List Nat}:d9 live .dk=true:=rfl
theorem zW {s:Nat} {live:List Nat}:d9 live (.cp s)=true:=rfl
theorem look_nil {α:Type} {t:Nat}:look ([]:List (Nat×α)) t=none:=rfl
theorem Eb {α:Type} {k t:Nat} {v:α} {r:List (Nat×α)}:look ((k,v)::r) t=if k=t then some v else look r t:=rfl
theorem Ht {α:Type} {t:Nat} {v:α}:dC ([]:List (Nat×α)) t v=[(t,v)]:=rfl
theorem Ec {α:Type} {k t:Nat} {v u:α} {r:List (Nat×α)}:dC ((k,v)::r) t u=if k=t then (k,u)::r else (k,v)::dC r t u:=rfl
theorem Ed {env:List (Nat×AV)} {d:Nat} {v:AV}:fW env (some d) v=dC env d v:=rfl
theorem Ee {env:List (Nat×AV)} {v:AV}:fW env none v=env:=rfl
theorem Ef {mem:List (Nat×List AV)} {k:Nat} {cs:List AV}:fh mem (some k) (some cs)=dC mem k cs:=rfl
theorem e_ {mem:List (Nat×List AV)} {o:Option (List AV)}:fh mem none o=mem:=rfl
theorem zX {mem:List (Nat×List AV)} {k:Nat}:fh mem (some k) none=mem:=rfl
theorem ui {i:Nat}:cr i []=[]:=rfl
theorem r7 {i:Nat} {v:AV} {r:List AV}:cr i (v::r)=(i,v)::cr (i+1) r:=rfl
theorem zY {cs:List AV}:bn (.agg cs)=cs:=rfl
theorem wJ {cs:List PV}:bn (.pv (.agg cs))=cs.map .pv:=rfl
theorem wK {b:Bool}:bn (.pv (.bool b))=[.pv (.bool b)]:=rfl
theorem zZ {k:IntKind} {n:Int}:bn (.pv (.int k n))=[.pv (.int k n)]:=rfl
theorem z4 {s:List UInt8}:bn (.pv (.str s))=[.pv (.str s)]:=rfl
theorem z5 {l:List PV}:bn (.pv (.aD l))=[.pv (.aD l)]:=rfl
theorem z6 {l:List PV}:bn (.bB l)=[.bB l]:=rfl
theorem z7 {l:List PV} {τ:Nat}:bn (.own l τ)=[.own l τ]:=rfl
theorem wL {a b:Nat}:bn (.aX a b)=[.aX a b]:=rfl
theorem wM {a b c:Nat} {d:Bool}:bn (.bq a b c d)=[.bq a b c d]:=rfl
theorem Eg {a:Nat} {c:List AV}:bn (.fn a c)=[.fn a c]:=rfl
theorem wO:bn .dk=[.dk]:=rfl
theorem wP {s:Nat}:bn (.cp s)=[(.cp s)]:=rfl
theorem z8 {cs:List PV}:bw (.agg cs)=cs:=rfl
theorem wQ {b:Bool}:bw (.bool b)=[.bool b]:=rfl
theorem z9 {k:IntKind} {n:Int}:bw (.int k n)=[.int k n]:=rfl
theorem z_ {s:List UInt8}:bw (.str s)=[.str s]:=rfl
theorem Aa {l:List PV}:bw (.aD l)=[.aD l]:=rfl
theorem Ac {b:Bool}:bf (.pv (.bool b))=true:=rfl
theorem Eh {k:IntKind} {n:Int}:bf (.pv (.int k n))=true:=rfl
theorem Ei {s:List UInt8}:bf (.pv (.str s))=true:=rfl
theorem Ej {l:List PV}:bf (.pv (.aD l))=true:=rfl
theorem Ek {l:List PV}:bf (.bB l)=true:=rfl
theorem Em {l:List PV} {τ:Nat}:bf (.own l τ)=true:=rfl
theorem Ad {a b:Nat}:bf (.aX a b)=true:=rfl
theorem Ae {a b c:Nat} {d:Bool}:bf (.bq a b c d)=true:=rfl
theorem Hu {a:Nat} {c:List AV}:bf (.fn a c)=bO.gD c:=rfl
theorem Af:bf .dk=true:=rfl
theorem Ag {s:Nat}:bf (.cp s)=true:=rfl
theorem Ah {s:List (PV×PV)}:bf (.dj s)=true:=rfl
theorem Hv {v:AV}:d4 v=bf v:=rfl
theorem Hw {p:PV}:bO (.pv p)=true:=rfl
theorem Eo {l:List PV}:bO (.bB l)=true:=rfl
theorem Ai {a b:Nat}:bO (.aX a b)=true:=rfl
theorem Aj {a b c:Nat} {d:Bool}:bO (.bq a b c d)=true:=rfl
theorem Ak:bO .dk=true:=rfl
theorem Al {s:Nat}:bO (.cp s)=true:=rfl
theorem Hx {a:Nat} {c:List AV}:bO (.fn a c)=bO.gD c:=rfl
theorem Ep {c:List AV}:bO (.agg c)=bO.gD c:=rfl
theorem Er:bO.gD []=true:=rfl
theorem Am {v:AV} {r:List AV}:bO.gD (v::r)=(bO v && bO.gD r):=rfl
theorem Es {l:List PV} {τ:Nat}:bX (.own l τ)=true:=rfl
theorem Hy {p:PV}:bX (.pv p)=true:=rfl
theorem Et {l:List PV}:bX (.bB l)=true:=rfl
theorem Ao {a b:Nat}:bX (.aX a b)=true:=rfl
theorem Ap {a b c:Nat} {d:Bool}:bX (.bq a b c d)=true:=rfl
theorem Aq:bX .dk=true:=rfl
theorem Au {s:Nat}:bX (.cp s)=true:=rfl
theorem Hz {a:Nat} {c:List AV}:bX (.fn a c)=bO.gD c:=rfl
theorem Eu {c:List AV}:bX (.agg c)=eM c:=rfl
theorem Av:eM []=true:=rfl
theorem wR {v:AV} {r:List AV}:eM (v::r)=(gF v && eM r):=rfl
theorem Ew {l:List PV} {τ:Nat}:gF (.own l τ)=true:=rfl
theorem HA {p:PV}:gF (.pv p)=true:=rfl
theorem Ey {l:List PV}:gF (.bB l)=true:=rfl
theorem Aw {a b:Nat}:gF (.aX a b)=true:=rfl
theorem Ax {a b c:Nat} {d:Bool}:gF (.bq a b c d)=true:=rfl
theorem Ay:gF .dk=true:=rfl
theorem Az {s:Nat}:gF (.cp s)=true:=rfl
theorem HB {a:Nat} {c:List AV}:gF (.fn a c)=bO.gD c:=rfl
theorem Ez {c:List AV}:gF (.agg c)=bO.gD c:=rfl
theorem EA:bE.dQ []=true:=rfl
theorem AA {v:AV} {r:List AV}:bE.dQ (v::r)=(bE v && bE.dQ r):=rfl
theorem HC {p:PV}:bE (.pv p)=true:=rfl
theorem EB {l:List PV}:bE (.bB l)=true:=rfl
theorem EC {l:List PV} {τ:Nat}:bE (.own l τ)=false:=rfl
theorem AB {a b:Nat}:bE (.aX a b)=true:=rfl
theorem AD {a b c:Nat} {d:Bool}:bE (.bq a b c d)=true:=rfl
theorem HD {a:Nat} {c:List AV}:bE (.fn a c)=bE.dQ c:=rfl
theorem AE:bE .dk=true:=rfl
theorem AF {s:Nat}:bE (.cp s)=true:=rfl
theorem HE:bE .un=true:=rfl
theorem AG {a b:Nat}:bE (.az a b)=false:=rfl
theorem ED {c:List AV}:bE (.agg c)=bE.dQ c:=rfl
theorem EE {n:Nat} {p:PV}:aR n (.pv p)=true:=rfl
theorem AH {n:Nat} {l:List PV}:aR n (.bB l)=true:=rfl
theorem AI {n:Nat} {l:List PV} {τ:Nat}:aR n (.own l τ)=true:=rfl
theorem wS {n:Nat}:aR n .dk=true:=rfl
theorem wT {s:Nat} {n:Nat}:aR n (.cp s)=decide (s<n):=rfl
theorem wU {s:List (PV×PV)} {n:Nat}:aR n (.dj s)=true:=rfl
theorem wV {n a b:Nat}:aR n (.aX a b)=decide (a<n):=rfl
theorem wW {n a b c:Nat} {d:Bool}:aR n (.bq a b c d)=decide (a<n):=rfl
theorem EF {n a:Nat} {c:List AV}:aR n (.fn a c)=aR.cH n c:=rfl
theorem AJ {n:Nat} {c:List AV}:aR n (.agg c)=aR.cH n c:=rfl
theorem wX {n:Nat}:aR.cH n []=true:=rfl
theorem uj {n:Nat} {v:AV} {r:List AV}:aR.cH n (v::r)=(aR n v && aR.cH n r):=rfl
theorem AL {n τ:Nat} {l:List PV}:cz n (.own l τ)=.own l (τ+n):=rfl
theorem sR {n:Nat} {p:PV}:cz n (.pv p)=.pv p:=rfl
theorem AM {n:Nat} {p:List PV}:cz n (.bB p)=.bB p:=rfl
def uk (n:Nat) (p:List AV):Bool→AV
 | true=>.agg p
 | false=>.agg (p.map (eN n))
theorem AN {n:Nat} {p:List AV}:cz n (.agg p)=uk n p (bE.dQ p):=by
 simp only [cz]
 cases bE.dQ p<;>rfl
theorem um {n:Nat} {p:List AV}:uk n p true=.agg p:=rfl
theorem r_ {n:Nat} {p:List AV}:uk n p false=.agg (p.map (eN n)):=rfl
theorem AO {n τ:Nat} {l:List PV}:eN n (.own l τ)=.own l (τ+n):=rfl
theorem EG {n:Nat} {p:PV}:eN n (.pv p)=.pv p:=rfl
theorem AQ {n:Nat} {p:List PV}:eN n (.bB p)=.bB p:=rfl
theorem wY {n a b:Nat}:eN n (.aX a b)=.aX a b:=rfl
theorem EH {n a:Nat} {b:List AV}:eN n (.fn a b)=.fn a b:=rfl
theorem wZ {n a b c:Nat} {d:Bool}:eN n (.bq a b c d)=.bq a b c d:=rfl
theorem w0 {n:Nat}:eN n .dk=.dk:=rfl
theorem w3 {s:Nat} {n:Nat}:eN n (.cp s)=(.cp s):=rfl
theorem w4 {n a b:Nat}:cz n (.aX a b)=.aX a b:=rfl
theorem EI {n a:Nat} {b:List AV}:cz n (.fn a b)=.fn a b:=rfl
theorem w5 {n a b c:Nat} {d:Bool}:cz n (.bq a b c d)=.bq a b c d:=rfl
theorem w6 {n:Nat}:cz n .dk=.dk:=rfl
theorem w7 {s:Nat} {n:Nat}:cz n (.cp s)=(.cp s):=rfl
theorem w8 {s:List (PV×PV)} {n:Nat}:cz n (.dj s)=(.dj s):=rfl
theorem AR {n:Nat}:eB n []=[]:=rfl
theorem o_ {n:Nat} {r:Sh}:eB n (none::r)=none::eB n r:=rfl
theorem pa {n:Nat} {cs:List AV} {r:Sh}:eB n (some cs::r)=some (cs.map (cz n))::eB n r:=rfl
theorem sa {b:Bool}:bM.zeroCell (.bool b)=.pv (.bool b):=rfl
theorem uo {k:IntKind} {n:Int}:bM.zeroCell (.int k n)=.pv (.int k n):=rfl
theorem uq {s:List UInt8}:bM.zeroCell (.str s)=.pv (.str s):=rfl
theorem ur:bM.zeroCell (.aD [])=.bB []:=rfl
theorem w9 {l:List PV}:cf (.bB l)=[.bB l]:=rfl
theorem w_ {l:List PV} {τ:Nat}:cf (.own l τ)=[.own l τ]:=rfl
theorem AS {p:PV}:cf (.pv p)=bn (.pv p):=rfl
theorem uu {a b:Nat}:cf (.aX a b)=[.aX a b]:=rfl
theorem uv {a b c:Nat} {d:Bool}:cf (.bq a b c d)=[.bq a b c d]:=rfl
theorem AT {a:Nat} {c:List AV}:cf (.fn a c)=[.fn a c]:=rfl
theorem uw:cf .dk=[.dk]:=rfl
theorem ux {s:Nat}:cf (.cp s)=[(.cp s)]:=rfl
def B6 (cs:List AV):Option (List PV)→List AV
 | some ps=>ps.map .pv
 | none=>cs
theorem xa {cs:List AV}:cf (.agg cs)=B6 cs (d8 [] cs):=by
 show (match de [] (.agg cs) with | some p=>bn (.pv p) | none=>bn (.agg cs))=_
 have h:de [] (.agg cs)=(d8 [] cs).map .agg:=rfl
 unfold B6
 rw [h]
 cases d8 [] cs<;>rfl
theorem AU {cs:List AV} {ps:List PV}:B6 cs (some ps)=ps.map .pv:=rfl
theorem qM {cs:List AV}:B6 cs none=cs:=rfl
theorem OH {o:Gc}:AK.key (.v o)=none:=rfl
theorem EJ {k o s:Nat} {a:Bool}:AK.key (.bj k o s a)=some k:=rfl
theorem AW {k o s:Nat}:AK.key (.cT k o s)=some k:=rfl
theorem EK {k:Nat} {z:List PV}:AK.key (.alloc k z)=some k:=rfl
theorem Kz {k s:Nat}:AK.key (.box k s)=some k:=rfl
theorem EL {s:Nat} {a:Bool}:AK.key (.aZ s a)=none:=rfl
theorem AX {s:Nat}:AK.key (.cU s)=none:=rfl
theorem HF {s:Nat}:AK.key (.lS s)=none:=rfl
theorem AY {s:List PV}:AK.key (.hH s)=none:=rfl
theorem EM {s b:Nat} {a:Bool} {z:List PV}:AK.key (.jg s b a z)=none:=rfl
theorem xd {s b:Nat} {ag:Bool}:AK.key (.c_ s b ag)=none:=rfl
theorem AZ {s b:Nat}:AK.key (.append s b)=none:=rfl
theorem EN {g:Nat}:AK.key (.aB g)=none:=rfl
theorem A0 {g:Nat}:AK.key (.dW g)=none:=rfl
theorem EO {g:Nat}:AK.key (.jh g)=none:=rfl
theorem EP {g:Nat} {o:List Nat}:AK.key (.aI g o)=none:=rfl
theorem ER:AK.ki.key=none:=rfl
theorem ES {c:CK} {ok:Bool} {z:PV}:(AK.ix c ok z).key=none:=rfl
theorem HG {c:CK}:(AK.mC c).key=none:=rfl
theorem ET {sz bytes:Nat}:(AK.clone sz bytes).key=none:=rfl
theorem EU:AK.key .eK=none:=rfl
theorem bind_none {f:Nat→Option (List AV)}:(none:Option Nat).bind f=none:=rfl
theorem bind_some {f:Nat→Option (List AV)} {n:Nat}:(some n).bind f=f n:=rfl
theorem A1 {sz off:Nat} {cs:List AV}:b_ true sz cs off=if off+sz≤cs.length then some (.agg ((cs.drop off).take sz)) else none:=rfl
theorem xe {off:Nat} {cs:List AV}:b_ false 1 cs off=if off+1≤cs.length then cs[off]? else none:=rfl
theorem xg {sz:Nat} {cs:List PV}:cK true sz cs=if sz≤cs.length then some (.pv (.agg (cs.take sz))) else none:=rfl
theorem uy {c:PV} {cs:List PV}:cK false 1 (c::cs)=some (.pv c):=by simp [cK]
theorem aJ {cs vs:List AV} {off:Nat}:bu cs off vs=cs.take off++vs++cs.drop (off+vs.length):=rfl
theorem Nj {x:AV}:bM .mv [x]=some x:=rfl
theorem HH {c:Bool} {a b:AV}:bM .pick [.pv (.bool c),a,b]=if c=true then some a else some b:=by cases c<;>rfl
theorem KA {i:Nat} {vs:List AV}:bM (.ext i) [.lI vs]=vs[i]?:=rfl
theorem EV {off sz:Nat} {ag:Bool} {cs:List AV}:bM (.field off sz ag) [.agg cs]=b_ ag sz cs off:=rfl
theorem A2 {off sz:Nat} {ag:Bool} {cs:List PV}:bM (.field off sz ag) [.pv (.agg cs)]=cK ag sz (cs.drop off):=rfl
theorem A3 {off d o:Nat}:bM (.bh off) [.az d o]=some (.az d (o+off)):=rfl
theorem A4 {off d o:Nat}:bM (.bh off) [.aX d o]=some (.aX d (o+off)):=rfl
theorem A5 {off:Nat} {cs:List PV}:bM (.bh off) [.dm cs]=some (.dm (cs.drop off)):=rfl
def uz (sz:Nat):Option PV→Option AV
 | some el=>if (bw el).length=sz then some (.dm (bw el)) else none
 | none=>none
theorem xh {sz:Nat} {el:PV}:uz sz (some el)=if (bw el).length=sz then some (.dm (bw el)) else none:=rfl
theorem EW {sz:Nat} {l:List PV} {k:IntKind} {i:Int}:bM (.aE sz) [.pv (.aD l),.pv (.int k i)]=if i<0 then none else uz sz l[i.toNat]?:=by
 show (if i<0 then none else _)=_
 split
 · rfl
 · show (match l[i.toNat]? with | some el=>_ | none=>_)=_
   cases l[i.toNat]?<;>rfl
theorem A6 {sz:Nat} {l:List PV} {k:IntKind} {i:Int}:bM (.aE sz) [.bB l,.pv (.int k i)]=if i<0 then none else uz sz l[i.toNat]?:=by
 show (if i<0 then none else _)=_
 split
 · rfl
 · show (match l[i.toNat]? with | some el=>_ | none=>_)=_
   cases l[i.toNat]?<;>rfl
theorem A7 {sz τ:Nat} {l:List PV} {k:IntKind} {i:Int}:bM (.aE sz) [.own l τ,.pv (.int k i)]=if i<0 then none else uz sz l[i.toNat]?:=by
 show (if i<0 then none else _)=_
 split
 · rfl
 · show (match l[i.toNat]? with | some el=>_ | none=>_)=_
   cases l[i.toNat]?<;>rfl
theorem A8 {sz b sz' n:Nat} {ag:Bool} {k:IntKind} {i:Int}:bM (.aE sz) [.bq b sz' n ag,.pv (.int k i)]=if i<0 then none else if sz=sz'∧i.toNat<n then some (.aX b (i.toNat*sz)) else none:=rfl
def OI:Option UInt8→Option AV
 | some b=>some (.pv (.int .u8 b.toNat))
 | none=>none
theorem A9 {b:UInt8}:OI (some b)=some (.pv (.int .u8 b.toNat)):=rfl
def OJ:Option (List AV)→Option AV
 | some cs=>some (.agg cs)
 | none=>none
theorem EX {cs:List AV}:OJ (some cs)=some (.agg cs):=rfl
theorem EY {zero:List PV} {places:List (Nat×Nat)}:bM (.build zero places) vals=OJ (j8 (zero.map bM.zeroCell) places vals):=by
 show (j8 _ _ _).map _=_
 cases j8 (zero.map bM.zeroCell) places vals<;>rfl
theorem EZ {cs:List AV}:j8 cs [] []=some cs:=rfl
theorem A_ {cs:List AV} {off sz:Nat} {ps:List (Nat×Nat)} {v:AV} {vs:List AV}:j8 cs ((off,sz)::ps) (v::vs) =
   if (bn v).length=sz∧off+sz≤cs.length∧(bn v).all bf=true then j8 (bu cs off (bn v)) ps vs else none:=rfl
def OK (sz:Nat):Option (List PV)→Option AV
 | some els=>if els.all (fun e=>(bw e).length == sz) then some (.bB els) else none
 | none=>none
theorem E_ {sz:Nat} {els:List PV}:OK sz (some els)=if els.all (fun e=>(bw e).length == sz) then some (.bB els) else none:=rfl
theorem A' {sz:Nat}:bM (.aT sz) vals=OK sz (cV [] vals):=by
 show (cV [] vals).bind _=_
 cases cV [] vals<;>rfl
theorem Fa {sz:Nat} {ag:Bool} {cs:List PV}:bM (.aN sz ag) [.dm cs]=cK ag sz cs:=rfl
theorem KB {l:List PV}:bM .len [.pv (.aD l)]=some (.pv (.int .i64 l.length)):=rfl
theorem HI {l:List PV}:bM .len [.bB l]=some (.pv (.int .i64 l.length)):=rfl
theorem HJ {l:List PV} {τ:Nat}:bM .len [.own l τ]=some (.pv (.int .i64 l.length)):=rfl
theorem HK {a b n:Nat} {d:Bool}:bM .len [.bq a b n d]=some (.pv (.int .i64 n)):=rfl
theorem HL {s:List UInt8}:bM .jx [.pv (.str s)]=some (.pv (.int .i64 s.length)):=rfl
theorem HM {a b:Nat}:bM .aY [.az a b]=some (.az a b):=rfl
theorem HN {a b:Nat}:bM .aY [.aX a b]=some (.aX a b):=rfl
theorem HO {a:List PV}:bM .aY [.dm a]=some (.dm a):=rfl
theorem HP {a:Nat} {b:List AV}:bM .aY [.fn a b]=some (.fn a b):=rfl
theorem Nk {k k':IntKind} {x y:Int}:bM .mn [.pv (.int k x),.pv (.int k' y)]=if k=k' then some (.pv (.int k (if y<x then y else x))) else none:=rfl
theorem Nl {k k':IntKind} {x y:Int}:bM .mx [.pv (.int k x),.pv (.int k' y)]=if k=k' then some (.pv (.int k (if y > x then y else x))) else none:=rfl
theorem HQ {g:Nat}:bM (.CG g) vals=some (.fn g vals):=by cases vals<;>rfl
theorem HR {k k':IntKind} {n:Int}:bM (.conv k) [.pv (.int k' n)]=some (.pv (.int k (k.wrap n))):=rfl
theorem KD {b:Bool}:bM (.un .not) [.pv (.bool b)]=some (.pv (.bool !b)):=rfl
theorem KE {k:IntKind} {n:Int}:bM (.un .neg) [.pv (.int k n)]=some (.pv (.int k (k.wrap (0-n)))):=rfl
theorem KF {a b:Bool}:bM (.beq false) [.pv (.bool a),.pv (.bool b)]=some (.pv (.bool (a == b))):=rfl
theorem KH {a b:Bool}:bM (.beq true) [.pv (.bool a),.pv (.bool b)]=some (.pv (.bool !(a == b))):=rfl
theorem KI {k:IntKind} {a b:Int}:bM (.bin .add) [.pv (.int k a),.pv (.int k b)]=some (.pv (.int k (k.wrap (a+b)))):=by simp [bM,df]
theorem KJ {k:IntKind} {a b:Int}:bM (.bin .sub) [.pv (.int k a),.pv (.int k b)]=some (.pv (.int k (k.wrap (a-b)))):=by simp [bM,df]
theorem KK {k:IntKind} {a b:Int}:bM (.bin .mul) [.pv (.int k a),.pv (.int k b)]=some (.pv (.int k (k.wrap (a*b)))):=by simp [bM,df]
theorem KL {k:IntKind} {a b:Int}:bM (.bin .rem) [.pv (.int k a),.pv (.int k b)]=if b=0 then none else some (.pv (.int k (a.tmod b))):=by simp [bM,df]
theorem KM {k:IntKind} {a b:Int}:bM (.bin .eql) [.pv (.int k a),.pv (.int k b)]=some (.pv (.bool (a == b))):=by simp [bM,df]
theorem KN {k:IntKind} {a b:Int}:bM (.bin .neq) [.pv (.int k a),.pv (.int k b)]=some (.pv (.bool (a != b))):=by simp [bM,df]
theorem KO {k:IntKind} {a b:Int}:bM (.bin .lss) [.pv (.int k a),.pv (.int k b)]=some (.pv (.bool (decide (a<b)))):=by simp [bM,df]
theorem KP {k:IntKind} {a b:Int}:bM (.bin .leq) [.pv (.int k a),.pv (.int k b)]=some (.pv (.bool (decide (a≤b)))):=by simp [bM,df]
theorem KQ {k:IntKind} {a b:Int}:bM (.bin .gtr) [.pv (.int k a),.pv (.int k b)]=some (.pv (.bool (decide (a > b)))):=by simp [bM,df]
theorem KR {k:IntKind} {a b:Int}:bM (.bin .geq) [.pv (.int k a),.pv (.int k b)]=some (.pv (.bool (decide (a≥b)))):=by simp [bM,df]
theorem KT {k:IntKind} {a b:Int}:bM (.bin .and) [.pv (.int k a),.pv (.int k b)]=some (.pv (.int k (k.wrap (BitVec.ofInt k.bits a &&& BitVec.ofInt k.bits b).toNat))):=by simp [bM,df]
theorem KU {k k':IntKind} {a b:Int}:bM (.bin .shr) [.pv (.int k a),.pv (.int k' b)]=if b<0 then none else some (.pv (.int k (a.fdiv (2 ^ (min b.toNat k.bits))))):=by simp [bM,df]
theorem KX {a b:List UInt8}:bM (.bin .add) [.pv (.str a),.pv (.str b)]=if a.length+b.length≤9223372036854775807 then some (.pv (.str (a++b))) else none:=rfl
theorem HS {a b:List UInt8}:bM (.bin .eql) [.pv (.str a),.pv (.str b)]=some (.pv (.bool (a == b))):=rfl
theorem HT {a b:List UInt8}:bM (.bin .neq) [.pv (.str a),.pv (.str b)]=some (.pv (.bool (!(a == b)))):=rfl
theorem HU {a b:List UInt8}:bM (.bin .lss) [.pv (.str a),.pv (.str b)]=some (.pv (.bool (df.fU a b))):=rfl
theorem HV {a b:List UInt8}:bM (.bin .gtr) [.pv (.str a),.pv (.str b)]=some (.pv (.bool (!(df.fU a b || a == b)))):=rfl
theorem Fb {sz:Nat} {lo hi mx:Bool} {x:AV} {rest:List AV}:bM (.slice false sz lo hi mx) (x::rest)=cI false sz lo hi mx (x::rest):=rfl
theorem Ba {sz:Nat} {lo hi mx:Bool} {x:AV} {rest:List AV}:bM (.slice true sz lo hi mx) (x::rest)=cI true sz lo hi mx (x::rest):=rfl
def me (a9 ks:Bool) (sh0 sh:Sh) (ah:aL):Option (List AV)→Option (List AV×Sh×aL)
 | some vs=>if (cD a9 ks sh vs).all bX=true then
     some ((cZ ah (cD a9 ks sh vs) (if (cD a9 ks sh vs).all (aR sh0.length)=true then (eF a9 ks sh vs).take sh0.length else eF a9 ks sh vs)).1,
       (cZ ah (cD a9 ks sh vs) (if (cD a9 ks sh vs).all (aR sh0.length)=true then (eF a9 ks sh vs).take sh0.length else eF a9 ks sh vs)).2.1,
       (cZ ah (cD a9 ks sh vs) (if (cD a9 ks sh vs).all (aR sh0.length)=true then (eF a9 ks sh vs).take sh0.length else eF a9 ks sh vs)).2.2.2) else none
 | none=>none
theorem xj {a9 ks:Bool} {sh0:Sh} {vs:List AV}:me a9 ks sh0 sh ah (some vs)=if (cD a9 ks sh vs).all bX=true then
     some ((cZ ah (cD a9 ks sh vs) (if (cD a9 ks sh vs).all (aR sh0.length)=true then (eF a9 ks sh vs).take sh0.length else eF a9 ks sh vs)).1,
       (cZ ah (cD a9 ks sh vs) (if (cD a9 ks sh vs).all (aR sh0.length)=true then (eF a9 ks sh vs).take sh0.length else eF a9 ks sh vs)).2.1,
       (cZ ah (cD a9 ks sh vs) (if (cD a9 ks sh vs).all (aR sh0.length)=true then (eF a9 ks sh vs).take sh0.length else eF a9 ks sh vs)).2.2.2) else none:=rfl
def fin (a9 ks:Bool) (rs:List p7) (sh0:Sh):Option (a6×St)→Option (List AV×Sh×aL)
 | some (.ret,st)=>me a9 ks sh0 st.sh st.ah (d5 st rs)
 | some (.normal,st)=>me a9 ks sh0 st.sh st.ah (d5 st rs)
 | _=>none
theorem KY {a9 ks:Bool} {rs:List p7} {sh0:Sh} {st:St}:fin a9 ks rs sh0 (some (.ret,st))=me a9 ks sh0 st.sh st.ah (d5 st rs):=rfl
theorem Bb {a9 ks:Bool} {rs:List p7} {sh0:Sh} {st:St}:fin a9 ks rs sh0 (some (.normal,st))=me a9 ks sh0 st.sh st.ah (d5 st rs):=rfl
theorem KZ {a9 ks:Bool} {rs:List p7} {sh0:Sh} {c:Prop} [Decidable c] {x y:Option (a6×St)}:fin a9 ks rs sh0 (if c then x else y)=if c then fin a9 ks rs sh0 x else fin a9 ks rs sh0 y:=by split<;>rfl
theorem sT {a9:Bool} {af:aH} {sh0:Sh} {r:Option (a6×St)}:finish a9 af sh0 r=fin a9 af.ks af.results sh0 r:=by
 cases r with
 | none=>rfl
 | some q=>
   obtain ⟨e,st⟩:=q
   cases e with
   | ret=>simp only [finish,fin];cases d5 st af.results<;>simp [me]
   | normal=>simp only [finish,fin];cases d5 st af.results<;>simp [me]
   | exit id=>simp [finish,fin]
theorem Bc {st:St}:d5 st []=some []:=rfl
theorem xl {st:St} {r:p7} {rs:List p7}:d5 st (r::rs)=m7 (oC st r) (d5 st rs):=by
 simp only [d5]
 cases oC st r<;>cases d5 st rs<;>rfl
theorem K0 {st:St} {n:Nat}:oC st (.t n)=look st.env n:=rfl
def lu (key sz:Nat) (ag:Bool) (mem:List (Nat×List AV)) (sh:Sh):Option AV→Option AV
 | some (.az d 0)=>uA key d sz ag (look mem key)
 | some (.aX s 0)=>qG ag sz 0 sh[s]?
 | _=>none
where uA (key d sz:Nat) (ag:Bool):Option (List AV)→Option AV
 | some cs=>if d=key then b_ ag sz cs 0 else none
 | none=>none
theorem K1 {st:St} {key sz:Nat} {ag:Bool}:oC st (.c key sz ag)=lu key sz ag st.mem st.sh (look st.env key):=by
 simp only [oC]
 unfold lu
 split
 · rename_i h;rw [h];rfl
 · rename_i h;rw [h];rfl
 · rename_i h1 h2
   split
   · rename_i d e;exact absurd e (h1 d)
   · rename_i s e;exact absurd e (h2 s)
   · rfl
theorem uB {key sz d:Nat} {ag:Bool} {mem:List (Nat×List AV)}:lu key sz ag mem sh (some (.az d 0))=lu.uA key d sz ag (look mem key):=rfl
theorem uD {key sz d:Nat} {ag:Bool} {cs:List AV}:lu.uA key d sz ag (some cs)=if d=key then b_ ag sz cs 0 else none:=rfl
theorem xm {key sz s:Nat} {ag:Bool} {mem:List (Nat×List AV)}:lu key sz ag mem sh (some (.aX s 0))=qG ag sz 0 sh[s]?:=rfl
theorem uE {vs:List AV} {ks:Bool}:cD false ks sh vs=vs.map (qa sh):=rfl
theorem xn {vs:List AV}:cD true false sh vs=vs.map (nE sh):=rfl
theorem Fe {vs:List AV}:cD true true sh vs=vs:=rfl
theorem xp {vs:List AV} {ks:Bool}:eF false ks sh vs=d_ sh vs:=rfl
theorem Be {vs:List AV}:eF true false sh vs=d_ sh vs:=rfl
theorem HW {vs:List AV}:eF true true sh vs=sh:=rfl
def HX (v:AV):Option PV→AV
 | some p=>.pv p
 | none=>v
theorem Ff {v:AV} {p:PV}:HX v (some p)=.pv p:=rfl
theorem Fg {v:AV}:HX v none=v:=rfl
theorem HY {v:AV}:qa sh v=HX v (de sh v):=rfl
theorem HZ {l:List PV}:nE sh (.bB l)=.bB l:=rfl
theorem H0 {l:List PV} {τ:Nat}:nE sh (.own l τ)=.own l τ:=rfl
theorem H3 {cs:List AV}:nE sh (.agg cs)=.agg (cs.map (lU sh)):=rfl
theorem K2 {p:PV}:nE sh (.pv p)=.pv p:=rfl
theorem Fh {a b:Nat}:nE sh (.aX a b)=.aX a b:=rfl
theorem K3 {a:Nat} {b:List AV}:nE sh (.fn a b)=.fn a b:=rfl
theorem Fi:nE sh .dk=.dk:=rfl
theorem Fj {s:Nat}:nE sh (.cp s)=(.cp s):=rfl
theorem Fk {a b c:Nat} {d:Bool}:nE sh (.bq a b c d)=HX (.bq a b c d) (de sh (.bq a b c d)):=rfl
theorem H4 {l:List PV}:lU sh (.bB l)=.bB l:=rfl
theorem H5 {l:List PV} {τ:Nat}:lU sh (.own l τ)=.pv (.aD l):=rfl
theorem Fl {b:Bool}:lU sh (.pv (.bool b))=.pv (.bool b):=rfl
theorem H6 {k:IntKind} {n:Int}:lU sh (.pv (.int k n))=.pv (.int k n):=rfl
theorem H7 {s:List UInt8}:lU sh (.pv (.str s))=.pv (.str s):=rfl
theorem H8 {l:List PV}:lU sh (.pv (.aD l))=.pv (.aD l):=rfl
theorem Fm {a b:Nat}:lU sh (.aX a b)=.aX a b:=rfl
theorem Fo:lU sh .dk=.dk:=rfl
theorem Fp {s:Nat}:lU sh (.cp s)=(.cp s):=rfl
theorem Fq {a b c:Nat} {d:Bool}:lU sh (.bq a b c d)=HX (.bq a b c d) (de sh (.bq a b c d)):=rfl
theorem Bf {vs:List AV}:d_ sh vs=kill sh (vs.flatMap ff):=rfl
theorem H9:kill sh []=sh:=rfl
theorem Fs {b:Nat} {l:List Nat}:kill sh (b::l)=kill (sh.set b none) l:=rfl
theorem Ft {a b c:Nat} {d:Bool}:ff (.bq a b c d)=[a]:=rfl
theorem K4 {p:PV}:ff (.pv p)=[]:=rfl
theorem H_ {l:List PV} {τ:Nat}:ff (.own l τ)=[]:=rfl
theorem Ia {l:List PV}:ff (.bB l)=[]:=rfl
theorem Fu {a b:Nat}:ff (.aX a b)=[]:=rfl
theorem K5 {a:Nat} {b:List AV}:ff (.fn a b)=[]:=rfl
theorem Fv:ff .dk=[]:=rfl
theorem Fw {s:Nat}:ff (.cp s)=[]:=rfl
def lN:AV→List Nat
 | .bq b _ _ _=>[b]
 | _=>[]
theorem Ib {cs:List AV}:ff (.agg cs)=cs.flatMap lN:=by
 show cs.flatMap _=cs.flatMap lN
 congr 1
theorem Bg {a b c:Nat} {d:Bool}:lN (.bq a b c d)=[a]:=rfl
theorem Ic {p:PV}:lN (.pv p)=[]:=rfl
theorem Fx {l:List PV} {τ:Nat}:lN (.own l τ)=[]:=rfl
theorem Fy {l:List PV}:lN (.bB l)=[]:=rfl
theorem Bh {a b:Nat}:lN (.aX a b)=[]:=rfl
theorem Ie {a:Nat} {b:List AV}:lN (.fn a b)=[]:=rfl
theorem Bi:lN .dk=[]:=rfl
theorem Bj {s:Nat}:lN (.cp s)=[]:=rfl
theorem Bk:fm []=some []:=rfl
theorem xq {p:PV} {r:List AV}:fm (.pv p::r)=m7 (some p) (fm r):=by
 simp only [fm]
 cases fm r<;>rfl
def lx:Option (List AV×Sh×aL)→Option (List PV)
 | some (rs,_,_)=>fm rs
 | none=>none
theorem uF {rs:List AV} {t:aL}:lx (some (rs,sh,t))=fm rs:=rfl
theorem xt {c:Prop} [Decidable c] {x y:Option (List AV×Sh×aL)}:lx (if c then x else y)=if c then lx x else lx y:=by split<;>rfl
theorem aq {g:Nat} {af:aH} {x:List PV} (hg:AP g=some af) (h1:x.length=af.nparams) (h2:af.nparams≤af.ntmps) (hp:af.p8=none:=by rfl) :
   (aP AP).p g x=lx (fin false af.ks af.results [] (cl AP af.body ⟨cr 0 (x.map .pv),[],[],[]⟩)):=by
 rw [L2 hg hp h1 (by omega)]
 unfold lM lx
 rw [sT]
 cases fin false af.ks af.results [] (cl AP af.body ⟨cr 0 (x.map .pv),[],[],[]⟩)<;>rfl
theorem aK {g:Nat} {af:aH} {x:List AV} {ts:aL} (hg:AP g=some af) (h2:x.length≤af.ntmps) :
   (aP AP).i g x sh ts=fin true af.ks af.results sh (cl AP af.body ⟨cr 0 x,[],sh,ts⟩):=by
 rw [L3 hg h2,←sT]
 rfl
end
attribute [simp] C8 we C_ wg yQ t4 C' yR Da t5 Db yS Dc Dd yT t6 wh yU Gz Kh OE Ki GA GB Dh Di wj yV yW Dj M9 gN gW iI kx wm o7 wo m5 iZ kZ i4 jF Dx GI i5 r5 Dy Dz GP DK DL y7 wu DM mc y8 wv DN GR GS y9 eg za wy GV DP DQ zb GW zc zd DR wz zg zh wA Kq Kr GX nR zi wB DS zj Ks GY GZ Nh Kt Ku DT Kv zk wC wD ud zm ue G6 Ni G7 ug G9 DU G_ Ha Hb Hc He Hf Hg DV qJ DW qK qL DX zn DY zo DZ D0 Hh wE D1 D4 zx zy zz zA Hk zB Ky wH zF zG pB nU zH zI pD nW zJ D5 Hn Ho D6 D7 Ea zR zT zU Hs zV look_nil Eb Ht Ec Ed Ee Ef e_ zX ui r7 zY wJ wK zZ z4 z5 z6 z7 wL wM Eg wO z8 wQ z9 z_ Aa Ac Eh Ei Ej Ek Em Ad Ae Hu Af Hv Hw Eo Ai Aj Ak Hx Ep Er Am Es Hy Et Ao Ap Aq Hz Eu EA AA HC EB EC AB AD HD AE HE AG ED EE AH AI wS wV wW EF AJ wX uj AL sR AM AN w4 EI w5 w6 AR o_ pa sa uo uq ur w9 w_ AS uu uv AT uw xa AU qM OH EJ AW EK Kz EL AX HF AY EM AZ EN A0 EP EU bind_none bind_some A1 xe xg uy aJ Nj HH KA EV A2 A3 A4 A5 xh EW A6 A7 A8 A9 EX EY EZ A_ E_ A' Fa KB HI HJ HK HL HM HN HO HP Nk Nl HQ HR KD KE KF KH KI KJ KK KL KM KN KO KP KQ KR KT KU KX HS HT HU HV Fb Ba xj KY Bb KZ Bc xl K0 K1 uB uD xm uE xn Ff Fg HY HZ H0 H3 K2 Fh K3 Fi Fk H4 H5 Fl H6 H7 H8 Fm Fo Fq Bf H9 Fs Ft K4 H_ Ia Fu K5 Fv Ib Bg Ic Fx Fy Bh Ie Bi Bk xq uF xt ze uf G8 zD zE zW wP Ag Ah Al Au AF wT wU w7 w8 ux Fj Fp Fw Bj GD Kj GF GG Dk Dl Kk Dm Dn Dp jG iJ la lZ Dq t9 rZ qH Dr sQ ER ES HG ET Du Dv DO o9 y_ wF uh zq wG D2 Hi D3 zs zt Hj zu zw zL wI D9 Hp D_ zM zN Hq D' zP Hr zQ Av wR Ew HA Ey Aw Ax Ay Az HB Ez um r_ AO EG AQ wY EH wZ w0 w3 Fe xp Be HW EO DB GJ yX jH wq GL GM DC Kl GO DE DF DG DH DI DD yZ y1 y2 M5 xd DJ wt t_ ua y3 y4 y5 y6 M8 Kd Ke M6 Gx List.getElem?_cons_zero
theorem au {n:Int} (h1:-9223372036854775808≤n) (h2:n≤9223372036854775807):IntKind.i64.wrap n=n:=by
 simp [IntKind.wrap,IntKind.bits,IntKind.signed]
 omega
end Go.Ab.Ev
