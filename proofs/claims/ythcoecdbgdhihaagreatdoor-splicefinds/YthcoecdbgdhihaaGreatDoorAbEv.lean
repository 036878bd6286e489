import Derived.Test.YthcoecdbgdhihaaGreatDoorAbLim
/-
  Rules for running slim code by the simplifier: each is an equation on constructors.
-/
set_option linter.unusedVariables false
set_option linter.unusedSimpArgs false
set_option linter.unnecessarySimpa false
set_option maxRecDepth 100000
set_option maxHeartbeats 8000000
namespace Go.Ab.Ev
section
variable {AP:Nat→Option aD} {O:ek}
noncomputable def branch (AP:Nat→Option aD) (o:Option AV) (a b:au) (st:St):Option (bG×St):=
 match o with
 | some (.pv (.bool t))=>if t=true then cl AP a st else cl AP b st
 | _=>none
theorem Di {c:eU} {a b:au} {st:St}:cl AP (.cond c a b) st=branch AP (gT st.env c) a b st:=by
 unfold branch
 split
 · rename_i t h
   rw [I8 h]
 · rename_i h
   unfold cl
   refine rf fun k=>?_
   simp only [dd]
theorem xg {t:Bool} {a b:au} {st:St}:branch AP (some (.pv (.bool t))) a b st=if t=true then cl AP a st else cl AP b st:=rfl
def rj (live:List Nat):Option St→Option (bG×St)
 | some st=>some (.normal,restrict live st)
 | none=>none
theorem Dj {ops:List dq} {live:List Nat} {st:St}:cl AP (.bn ops live) st=rj live (bM (aQ AP) ops st):=by
 rw [LO]
 cases bM (aQ AP) ops st<;>rfl
theorem xh {live:List Nat} {st:St}:rj live (some st)=some (.normal,restrict live st):=rfl
theorem zy {live:List Nat} {c:Prop} [Decidable c] {x y:Option St}:rj live (if c then x else y)=if c then rj live x else rj live y:=by split<;>rfl
theorem uW {f:St→Option (bG×St)} {st:St}:after f (some (.normal,st))=f st:=rfl
theorem Dk {f:St→Option (bG×St)} {st:St}:after f (some (.ret,st))=some (.ret,st):=rfl
theorem zz {f:St→Option (bG×St)} {st:St} {id:Nat}:after f (some (.exit id,st))=some (.exit id,st):=rfl
theorem Dl {f:St→Option (bG×St)} {c:Prop} [Decidable c] {x y:Option (bG×St)}:after f (if c then x else y)=if c then after f x else after f y:=by split<;>rfl
theorem uX {id:Nat} {st:St}:leave id (some (.normal,st))=some (.normal,st):=rfl
theorem Dm {id:Nat} {st:St}:leave id (some (.ret,st))=some (.ret,st):=rfl
theorem zA {id id':Nat} {st:St}:leave id (some (.exit id',st))=if id'=id then some (.normal,st) else some (.exit id',st):=rfl
theorem Dn {id:Nat} {c:Prop} [Decidable c] {x y:Option (bG×St)}:leave id (if c then x else y)=if c then leave id x else leave id y:=by split<;>rfl
def lU (O:ek) (l:List dq):Option St→Option St
 | some st=>bM O l st
 | none=>none
theorem Dp {st:St}:bM O [] st=some st:=rfl
theorem km {o:dq} {l:List dq} {st:St}:bM O (o::l) st=lU O l (d_ O o st):=by
 simp only [bM]
 cases d_ O o st<;>rfl
theorem zB {d:Option Nat} {args:List eU} {op:AK} {l:List dq} {st:St}:bM O (⟨d,none,args,op⟩::l) st=lU O l (d_ O ⟨d,none,args,op⟩ st):=km
theorem uY {l:List dq} {st:St}:lU O l (some st)=bM O l st:=rfl
theorem xj {l:List dq} {c:Prop} [Decidable c] {x y:Option St}:lU O l (if c then x else y)=if c then lU O l x else lU O l y:=by split<;>rfl
def rm (d k:Option Nat) (env:List (Nat×AV)) (mem:List (Nat×List AV)):Option Out→Option St
 | some out=>some { env:=fJ env d out.val,mem:=eV mem k out.cells,sh:=out.sh,ah:=out.ah }
 | none=>none
def F' (O:ek) (op:AK) (vals:Option (List AV)) (cells:Option (List AV)) (sh:Sh) (ah:aN):Option Out:=
 match vals with
 | some vals=>exec O op vals cells sh ah
 | none=>none
theorem zD {d:Option Nat} {args:List eU} {op:AK} {env:List (Nat×AV)} {mem:List (Nat×List AV)} {sh:Sh} {ah:aN} :
   d_ O ⟨d,none,args,op⟩ ⟨env,mem,sh,ah⟩=rm d op.key env mem (F' O op (ef env args) (op.key.bind (look mem)) sh ah):=by
 simp only [d_,fp]
 cases ef env args with
 | none=>rfl
 | some vals=>
   dsimp only [F']
   cases exec O op vals (op.key.bind (look mem)) sh ah<;>rfl
def rn (t:Nat) (b:Bool) (o:dq):dq:=
 match o.guard with
 | some (t',b')=>if t'=t then (if b'=b then { o with guard:=none } else ⟨o.dst,none,[.c .un],.v .mv⟩) else o
 | none=>o
def Dq (t:Nat):List dq→Bool
 | []=>true
 | o::l=>(o.dst != some t) && Dq t l
theorem lV {α:Type} {t t':Nat} {v:α}:∀{l:List (Nat×α)},look (dL l t v) t'=if t'=t then some v else look l t'
 | []=>by
   simp only [dL,look]
   by_cases h:t'=t
   · subst h;simp
   · rw [if_neg (fun e=>h e.symm),if_neg h]
 | (k,u)::r=>by
   simp only [dL]
   by_cases hk:k=t
   · subst hk
     simp only [if_true,look]
     by_cases h:t'=k
     · subst h;simp
     · rw [if_neg (fun e=>h e.symm),if_neg h,if_neg (fun e=>h e.symm)]
   · rw [if_neg hk]
     simp only [look,lV (l:=r)]
     by_cases h:k=t'
     · subst h;simp [hk]
     · rw [if_neg h,if_neg h]
theorem oq {α:Type} {t:Nat} {v:α}:∀{l:List (Nat×α)},look l t=some v→dL l t v=l
 | [],h=>by simp [look] at h
 | (k,u)::r,h=>by
   simp only [look] at h
   simp only [dL]
   split at h
   · rename_i e;cases h;rw [if_pos e]
   · rename_i e;rw [if_neg e,oq h]
theorem Dr {o:dq} {st st':St} {t:Nat} {v:AV} (hd:(o.dst != some t)=true) (h:look st.env t=some v) (e:d_ O o st=some st'):look st'.env t=some v:=by
 have key:∀x,look (fJ st.env o.dst x) t=some v:=by
   intro x
   cases hdd:o.dst with
   | none=>exact h
   | some d=>
     rw [hdd] at hd
     simp only [fJ,lV]
     rw [if_neg (by intro e;subst e;simp at hd)]
     exact h
 simp only [d_] at e
 split at e
 · cases e
 · cases e;exact key _
 · split at e
   · cases e
   · split at e
     · cases e
     · cases e;exact key _
theorem Du {o:dq} {st:St} {t:Nat} {b:Bool} (h:look st.env t=some (.pv (.bool b))):d_ O o st=d_ O (rn t b o) st:=by
 obtain ⟨d,g,args,op⟩:=o
 cases g with
 | none=>rfl
 | some p=>
   obtain ⟨t',b'⟩:=p
   simp only [rn]
   by_cases ht:t'=t
   · subst ht
     rw [if_pos rfl]
     by_cases hb:b'=b
     · subst hb
       rw [if_pos rfl]
       simp only [d_,fp,h,beq_self_eq_true]
     · rw [if_neg hb]
       have hb':(b == b')=false:=by simpa using fun e=>hb e.symm
       simp only [d_,fp,h,hb']
       obtain ⟨env,mem,sh,ah⟩:=st
       rfl
   · rw [if_neg ht]
theorem mL {t:Nat} {b:Bool}:∀{l:List dq} {st:St},Dq t l=true→look st.env t=some (.pv (.bool b))→bM O l st=bM O (l.map (rn t b)) st
 | [],_,_,_=>rfl
 | o::l,st,hn,h=>by
   simp only [Dq,Bool.and_eq_true] at hn
   rw [List.map_cons,km,km,←Du h]
   cases e:d_ O o st with
   | none=>rfl
   | some st'=>exact mL hn.2 (Dr hn.1 h e)
theorem xl {d:Option Nat} {t:Nat} {b:Bool} {args:List eU} {op:AK} {l:List dq} {env:List (Nat×AV)} {mem:List (Nat×List AV)} {sh:Sh} {ah:aN} {c:Bool} (h:look env t=some (.pv (.bool c))) (hn:Dq t (⟨d,some (t,b),args,op⟩::l)=true) :
   bM O (⟨d,some (t,b),args,op⟩::l) ⟨env,mem,sh,ah⟩ =
     if c=true then bM O ((⟨d,some (t,b),args,op⟩::l).map (rn t true)) ⟨dL env t (.pv (.bool true)),mem,sh,ah⟩
     else bM O ((⟨d,some (t,b),args,op⟩::l).map (rn t false)) ⟨dL env t (.pv (.bool false)),mem,sh,ah⟩:=by
 cases c with
 | true=>rw [if_pos rfl,oq h];exact mL hn h
 | false=>rw [if_neg (by simp),oq h];exact mL hn h
theorem uZ {d:Option Nat} {t:Nat} {b:Bool} {args:List eU} {op:AK} {l:List dq} {env:List (Nat×AV)} {mem:List (Nat×List AV)} {sh:Sh} {ah:aN} (h:look env t=some .un) :
   bM O (⟨d,some (t,b),args,op⟩::l) ⟨env,mem,sh,ah⟩=bM O l ⟨fJ env d .un,mem,sh,ah⟩:=by
 rw [km]
 simp only [d_,fp,h]
 rfl
noncomputable def gd (O:ek) (t:Nat) (ops:List dq) (d:Option Nat) (l:List dq) (env:List (Nat×AV)) (mem:List (Nat×List AV)) (sh:Sh) (ah:aN):Option AV→Option St
 | some (.pv (.bool c))=>if Dq t ops=true then (if c=true then bM O (ops.map (rn t true)) ⟨dL env t (.pv (.bool true)),mem,sh,ah⟩
     else bM O (ops.map (rn t false)) ⟨dL env t (.pv (.bool false)),mem,sh,ah⟩) else bM O ops ⟨env,mem,sh,ah⟩
 | some .un=>bM O l ⟨fJ env d .un,mem,sh,ah⟩
 | _=>bM O ops ⟨env,mem,sh,ah⟩
theorem Ga {d:Option Nat} {t:Nat} {b:Bool} {args:List eU} {op:AK} {l:List dq} {env:List (Nat×AV)} {mem:List (Nat×List AV)} {sh:Sh} {ah:aN} :
   bM O (⟨d,some (t,b),args,op⟩::l) ⟨env,mem,sh,ah⟩=gd O t (⟨d,some (t,b),args,op⟩::l) d l env mem sh ah (look env t):=by
 unfold gd
 split
 · rename_i c h
   split
   · rename_i hn;exact xl h hn
   · rfl
 · rename_i h;exact uZ h
 · rfl
theorem I_ {t:Nat} {ops:List dq} {d:Option Nat} {l:List dq} {env:List (Nat×AV)} {mem:List (Nat×List AV)} {sh:Sh} {ah:aN} {c:Bool}:gd O t ops d l env mem sh ah (some (.pv (.bool c))) =
   if Dq t ops=true then (if c=true then bM O (ops.map (rn t true)) ⟨dL env t (.pv (.bool true)),mem,sh,ah⟩
     else bM O (ops.map (rn t false)) ⟨dL env t (.pv (.bool false)),mem,sh,ah⟩) else bM O ops ⟨env,mem,sh,ah⟩:=rfl
theorem Nn {t:Nat} {ops:List dq} {d:Option Nat} {l:List dq} {env:List (Nat×AV)} {mem:List (Nat×List AV)} {sh:Sh} {ah:aN}:gd O t ops d l env mem sh ah (some .un)=bM O l ⟨fJ env d .un,mem,sh,ah⟩:=rfl
theorem Ja {t:Nat}:Dq t []=true:=rfl
theorem Gb {t d:Nat} {g:Option (Nat×Bool)} {args:List eU} {op:AK} {l:List dq}:Dq t (⟨some d,g,args,op⟩::l)=(!(decide (d=t)) && Dq t l):=by
 simp only [Dq]
 congr 1
theorem Gc {t:Nat} {g:Option (Nat×Bool)} {args:List eU} {op:AK} {l:List dq}:Dq t (⟨none,g,args,op⟩::l)=Dq t l:=by
 simp [Dq]
theorem Dv {t:Nat} {b:Bool} {d:Option Nat} {args:List eU} {op:AK}:rn t b ⟨d,none,args,op⟩=⟨d,none,args,op⟩:=rfl
theorem Dw {t t':Nat} {b b':Bool} {d:Option Nat} {args:List eU} {op:AK}:rn t b ⟨d,some (t',b'),args,op⟩=if t'=t then (if b'=b then ⟨d,none,args,op⟩ else ⟨d,none,[.c .un],.v .mv⟩) else ⟨d,some (t',b'),args,op⟩:=rfl
theorem xm {d k:Option Nat} {env:List (Nat×AV)} {mem:List (Nat×List AV)} {v:AV} {cs:Option (List AV)} {sh:Sh} {ah:aN} :
   rm d k env mem (some ⟨v,cs,sh,ah⟩)=some ⟨fJ env d v,eV mem k cs,sh,ah⟩:=rfl
theorem zE {d k:Option Nat} {env:List (Nat×AV)} {mem:List (Nat×List AV)} {c:Prop} [Decidable c] {x y:Option Out}:rm d k env mem (if c then x else y)=if c then rm d k env mem x else rm d k env mem y:=by split<;>rfl
theorem zF {op:AK} {vals:List AV} {cells:Option (List AV)} {sh:Sh} {ah:aN}:F' O op (some vals) cells sh ah=exec O op vals cells sh ah:=rfl
def Gd (sh:Sh) (ah:aN):Option AV→Option Out
 | some x=>some ⟨x,none,sh,ah⟩
 | none=>none
theorem Dx {sh:Sh} {ah:aN} {x:AV}:Gd sh ah (some x)=some ⟨x,none,sh,ah⟩:=rfl
variable {vals:List AV} {cells:Option (List AV)} {sh:Sh} {ah:aN}
theorem LQ {o:sH}:exec O (.v o) vals cells sh ah=Gd sh ah (cd o vals):=by
 show (cd o vals).map _=_
 cases cd o vals<;>rfl
theorem hU {key off sz d o:Nat} {ag:Bool} {cs:List AV}:exec O (.aS key off sz ag) [.aG d o] (some cs) sh ah=if d=key∧o=off then Gd sh ah (cz ag sz cs off) else none:=by
 show (if d=key∧o=off then (cz ag sz cs off).map _ else none)=_
 cases cz ag sz cs off<;>rfl
theorem iu {key off sz d o:Nat} {v:AV} {cs:List AV}:exec O (.cR key off sz) [.aG d o,v] (some cs) sh ah =
   if d=key∧o=off∧(bB v).length=sz∧(bB v).all bp=true then if off+sz≤cs.length then some ⟨.un,some (bo cs off (bB v)),sh,ah⟩ else none else none:=rfl
theorem i_ {key:Nat} {zero:List PV}:exec O (.alloc key zero) [] none sh ah=some ⟨.aG key 0,some (zero.map cd.zeroCell),sh,ah⟩:=rfl
theorem lg {key sz:Nat} {v:AV}:exec O (.box key sz) [v] none sh ah=if (bB v).length=sz∧(bB v).all bp=true then some ⟨.aG key 0,some (bB v),sh,ah⟩ else none:=rfl
theorem xn {sz:Nat} {ag:Bool} {cs:List PV}:exec O (.bf sz ag) [.fR cs] cells sh ah=Gd sh ah (de ag sz cs):=by
 show (de ag sz cs).map _=_
 cases de ag sz cs<;>rfl
def u_ (ag:Bool) (sz off:Nat):Option (Option (List AV))→Option AV
 | some (some cs)=>if dC cs=true then none else cz ag sz cs off
 | _=>none
theorem pw {ag:Bool} {sz off:Nat} {cs:List AV}:u_ ag sz off (some (some cs))=if dC cs=true then none else cz ag sz cs off:=rfl
theorem xp {sz b off:Nat} {ag:Bool}:exec O (.bf sz ag) [.bu b off] cells sh ah=Gd sh ah (u_ ag sz off sh[b]?):=by
 show (match sh[b]? with | some (some cs)=>if dC cs=true then none else (cz ag sz cs off).map _ | _=>none)=_
 split
 · rename_i cs h
   rw [h,pw]
   split
   · rfl
   · cases cz ag sz cs off<;>rfl
 · rename_i h
   unfold u_
   split
   · rename_i cs e;exact absurd e (h cs)
   · rfl
def va (b off sz:Nat) (vs:List AV) (sh:Sh) (ah:aN):Option (Option (List AV))→Option Out
 | some (some cs)=>if dC cs=false∧vs.length=sz∧off+sz≤cs.length∧vs.all dP=true∧vs.all (aV (b+1))=true then some ⟨.un,none,sh.set b (some (bo cs off vs)),ah⟩ else none
 | _=>none
theorem nC {b off sz:Nat} {vs cs:List AV}:va b off sz vs sh ah (some (some cs))=if dC cs=false∧vs.length=sz∧off+sz≤cs.length∧vs.all dP=true∧vs.all (aV (b+1))=true then some ⟨.un,none,sh.set b (some (bo cs off vs)),ah⟩ else none:=rfl
theorem iv {sz b off:Nat} {v:AV}:exec O (.cb sz) [.bu b off,v] cells sh ah=va b off sz (cV v) sh ah sh[b]?:=by
 show (match sh[b]? with | some (some cs)=>_ | _=>none)=_
 split
 · rename_i cs h
   rw [h,nC]
 · rename_i h
   unfold va
   split
   · rename_i cs e;exact absurd e (h cs)
   · rfl
theorem lO {sz:Nat} {v:AV}:exec O (.me sz) [v] cells sh ah=if (cV v).length=sz∧(cV v).all dP=true∧(cV v).all (aV sh.length)=true then some ⟨.bu sh.length 0,none,sh++[some (cV v)],ah⟩ else none:=rfl
theorem jr {zero:List PV}:exec O (.iT zero) [] cells sh ah=some ⟨.bu sh.length 0,none,sh++[some (zero.map cd.zeroCell)],ah⟩:=rfl
theorem j_ {sz bytes:Nat} {ag:Bool} {zero:List PV} {k k':IntKind} {n n':Int}:exec O (.ik sz bytes ag zero) [.pv (.int k n),.pv (.int k' n')] cells sh ah =
   if n=n'∧0≤n∧n≤9223372036854775807∧n*bytes≤140737488355328∧zero.length=sz then some ⟨.bI sh.length sz n.toNat ag,none,sh++[some ((List.replicate n.toNat (zero.map .pv)).flatten)],ah⟩ else none:=rfl
theorem ja {key sz bytes:Nat} {zero:List PV} {k k':IntKind} {n n':Int}:exec O (.iU key sz bytes zero) [.pv (.int k n),.pv (.int k' n')] none sh ah =
   if n=n'∧0≤n∧n≤9223372036854775807∧n*bytes≤140737488355328∧zero.length=sz then some ⟨.jK key n.toNat,some ((List.replicate n.toNat (zero.map .pv)).flatten),sh,ah⟩ else none:=rfl
theorem Dy {d s b:Nat} {z:List PV}:AK.key (.iU d s b z)=some d:=rfl
theorem zG {live:List Nat} {d n:Nat}:ei live (.jK d n)=live.contains d:=rfl
theorem Ge {α:Type} {d:Nat}:sJ d ([]:List (Nat×α))=[]:=rfl
theorem Dz {α:Type} {d k:Nat} {v:α} {r:List (Nat×α)}:sJ d ((k,v)::r)=if k=d then sJ d r else (k,v)::sJ d r:=rfl
def Qg (ts:List Nat) (st:St):Option AV→St
 | some (.bI b _ _ _)=>match st.sh[b]? with
   | some (some cells)=>if dC cells=false then { st with env:=y_ b st.sh.length ts st.env,sh:=st.sh.set b none++[some cells] } else st
   | _=>st
 | _=>st
def Qh (r:List Nat) (st:St):Option AV→St
 | some (.bI b _ _ _)=>match st.sh[b]? with
   | some (some cells)=>if dC cells=false∧(eZ (.agg cells)).contains b=false then
       match dQ st.sh cells with
       | some ps=>m8 r { st with sh:=(dZ st.sh [.agg cells]).set b (some (ps.map .pv)) }
       | none=>m8 r st
     else m8 r st
   | _=>m8 r st
 | _=>m8 r st
def Np (ah:aN):Option (AV×Sh×aN)→Option Out
 | some (v,sh',ts)=>some ⟨v,none,sh',ts⟩
 | none=>none
theorem DA {v:AV} {sh':Sh} {ts:aN}:Np ah (some (v,sh',ts))=some ⟨v,none,sh',ts⟩:=rfl
theorem xq {sz bytes:Nat} {ag:Bool} {x:AV}:exec O (.gF sz bytes ag) [x] cells sh ah=Np ah (fH (some ag) sz bytes x sh ah):=by
 show ((fH (some ag) sz bytes x sh ah).map _)=_
 cases fH (some ag) sz bytes x sh ah<;>rfl
def ve (ag:Bool) (sz bytes:Nat) (sh:Sh) (ah:aN):Option (List PV)→Option (AV×Sh×aN)
 | some xs=>if bC sz xs=true then (if xs.isEmpty=true then some (.bN [],sh,ah) else if xs.length*bytes≤140737488355328 then some (.bI sh.length sz xs.length ag,sh++[some ((xs.flatMap br).map .pv)],ah) else none) else none
 | none=>none
theorem DB {ag:Bool} {sz bytes:Nat} {x:AV}:fH (some ag) sz bytes x sh ah=ve ag sz bytes sh ah (cS x):=by
 cases h:cS x with
 | none=>simp [fH,ve,h]
 | some xs=>
   simp only [fH,ve,h]
   split
   · unfold pP
     split
     · rfl
     · split<;>rfl
   · rfl
theorem xt {ag:Bool} {sz bytes:Nat} {xs:List PV}:ve ag sz bytes sh ah (some xs) =
   if bC sz xs=true then (if xs.isEmpty=true then some (.bN [],sh,ah) else if xs.length*bytes≤140737488355328 then some (.bI sh.length sz xs.length ag,sh++[some ((xs.flatMap br).map .pv)],ah) else none) else none:=rfl
theorem zH {sz bytes:Nat} {ag:Bool}:(AK.gF sz bytes ag).key=none:=rfl
theorem Jb {p:PV} {r:List AV}:dC (.pv p::r)=false:=rfl
def Nq (ok:Bool) (z:PV) (sh:Sh) (ah:aN):Option (Option PV)→Option Out
 | some r=>some ⟨BU ok z r,none,sh,ah⟩
 | none=>none
theorem sU {z:PV} {r:Option PV}:BU false z r=.pv (r.getD z):=rfl
def Nr (c:CK) (ok:Bool) (z k:PV) (sh:Sh) (ah:aN):Option (Option (List AV))→Option Out
 | some (some [.fo kvs])=>Nq ok z sh ah (y8 c kvs k)
 | _=>none
theorem zI {c:CK} {ok:Bool} {z k:PV} {kvs:List (PV×PV)}:Nr c ok z k sh ah (some (some [.fo kvs]))=Nq ok z sh ah (y8 c kvs k):=rfl
def kL (s:Nat) (sh:Sh) (ah:aN):Option (List (PV×PV))→Option Out
 | some kvs=>some ⟨.un,none,sh.set s (some [.fo kvs]),ah⟩
 | none=>none
theorem DC {s:Nat} {kvs:List (PV×PV)}:kL s sh ah (some kvs)=some ⟨.un,none,sh.set s (some [.fo kvs]),ah⟩:=rfl
def PA (c:CK) (s:Nat) (k:PV) (sh:Sh) (ah:aN):Option (Option (List AV))→Option PV→Option Out
 | some (some [.fo kvs]),some p=>kL s sh ah (FN c kvs k p)
 | _,_=>none
theorem DD {c:CK} {s:Nat} {k p:PV} {kvs:List (PV×PV)}:PA c s k sh ah (some (some [.fo kvs])) (some p)=kL s sh ah (FN c kvs k p):=rfl
def LR (neg:Bool):Option Bool→Option AV
 | some b=>some (.pv (.bool (if neg then !b else b)))
 | none=>none
theorem DE {neg b:Bool}:LR neg (some b)=some (.pv (.bool (if neg then !b else b))):=rfl
def PB (cs:List CK) (neg:Bool):Option PV→Option PV→Option AV
 | some (.agg ps),some (.agg qs)=>LR neg (d9 cs ps qs)
 | _,_=>none
theorem DF {cs:List CK} {neg:Bool} {ps qs:List PV}:PB cs neg (some (.agg ps)) (some (.agg qs))=LR neg (d9 cs ps qs):=rfl
def DG (sh:Sh):Option (AV×aN)→Option Out
 | some (v,ts)=>some ⟨v,none,sh,ts⟩
 | none=>none
theorem DH {v:AV} {ts:aN}:DG sh (some (v,ts))=some ⟨v,none,sh,ts⟩:=rfl
theorem Gf {c:Prop} [Decidable c] {x y:Option (AV×aN)}:DG sh (if c then x else y)=if c then DG sh x else DG sh y:=by split<;>rfl
theorem js {sz bytes:Nat} {s x:AV}:exec O (.append sz bytes) [s,x] cells sh ah=DG sh (cC sz bytes s x ah):=by
 show (cC sz bytes s x ah).map _=_
 cases cC sz bytes s x ah<;>rfl
theorem mC {sz bytes:Nat} {x:AV}:exec O (.clone sz bytes) [x] cells sh ah=DG sh (cC sz bytes (.bN []) x ah):=by
 show (cC sz bytes (.bN []) x ah).map _=_
 cases cC sz bytes (.bN []) x ah<;>rfl
def B6 (sz bytes:Nat) (s:AV) (ah:aN):Option (List PV)→Option (AV×aN)
 | some xs=>if bC sz xs=true then
   match s with
   | .bN l=>if xs.isEmpty=true then some (.bN l,ah) else if bC sz l=true∧(l.length+xs.length)*bytes≤140737488355328 then
       some (.own (l++xs) ah.length,ah++[(l++xs).length]) else none
   | .own l τ=>if ah[τ]?=some l.length∧bC sz l=true∧(l.length+xs.length)*bytes≤140737488355328 then
       some (.own (l++xs) τ,ah.set τ (l++xs).length) else none
   | _=>none
   else none
 | none=>none
theorem sV {sz bytes:Nat} {s x:AV}:cC sz bytes s x ah=B6 sz bytes s ah (cS x):=by
 unfold cC B6
 cases cS x<;>rfl
theorem DI {sz bytes:Nat} {l xs:List PV}:B6 sz bytes (.bN l) ah (some xs)=if bC sz xs=true then if xs.isEmpty=true then some (.bN l,ah) else if bC sz l=true∧(l.length+xs.length)*bytes≤140737488355328 then
       some (.own (l++xs) ah.length,ah++[(l++xs).length]) else none else none:=rfl
theorem DJ {sz bytes τ:Nat} {l xs:List PV}:B6 sz bytes (.own l τ) ah (some xs)=if bC sz xs=true then if ah[τ]?=some l.length∧bC sz l=true∧(l.length+xs.length)*bytes≤140737488355328 then
       some (.own (l++xs) τ,ah.set τ (l++xs).length) else none else none:=rfl
def DK (ah:aN):Option (AV×Sh)→Option Out
 | some (v,sh)=>some ⟨v,none,sh,ah⟩
 | none=>none
theorem DL {v:AV} {sh:Sh}:DK ah (some (v,sh))=some ⟨v,none,sh,ah⟩:=rfl
theorem Gg {c:Prop} [Decidable c] {x y:Option (AV×Sh)}:DK ah (if c then x else y)=if c then DK ah x else DK ah y:=by split<;>rfl
def Gi (sz bytes:Nat) (ag:Bool) (s:AV) (sh:Sh) (ah:aN):Option (List PV)→Option Out
 | some xs=>if bC sz xs=true then DK ah (pQ sz bytes ag s xs sh ah) else none
 | none=>none
theorem zJ {sz bytes:Nat} {ag:Bool} {s:AV} {xs:List PV}:Gi sz bytes ag s sh ah (some xs)=if bC sz xs=true then DK ah (pQ sz bytes ag s xs sh ah) else none:=rfl
theorem kb {sz bytes:Nat} {ag:Bool} {s x:AV}:exec O (.db sz bytes ag) [s,x] cells sh ah=Gi sz bytes ag s sh ah (cS x):=by
 simp only [exec,Gi]
 cases cS x with
 | none=>rfl
 | some xs=>
   simp only
   split
   · cases pQ sz bytes ag s xs sh ah<;>rfl
   · rfl
def zK (sz bytes:Nat) (ag:Bool) (b z n:Nat) (g:Bool) (xs:List PV) (sh:Sh):Option (Option (List AV))→Option (AV×Sh)
 | some (some cells)=>if z=sz∧g=ag∧dC cells=false∧n*sz≤cells.length∧(n+xs.length)*bytes≤140737488355328 then
       if xs.isEmpty=true then some (.bI b sz n ag,sh) else some (.bI sh.length sz (n+xs.length) ag,sh.set b none++[some (cells.take (n*sz)++(xs.flatMap br).map .pv)])
     else none
 | _=>none
theorem xu {sz bytes:Nat} {ag:Bool} {b z n:Nat} {g:Bool} {xs:List PV} {cells:List AV}:zK sz bytes ag b z n g xs sh (some (some cells))=if z=sz∧g=ag∧dC cells=false∧n*sz≤cells.length∧(n+xs.length)*bytes≤140737488355328 then
       if xs.isEmpty=true then some (.bI b sz n ag,sh) else some (.bI sh.length sz (n+xs.length) ag,sh.set b none++[some (cells.take (n*sz)++(xs.flatMap br).map .pv)])
     else none:=rfl
theorem Gj {sz bytes:Nat} {ag:Bool} {xs:List PV}:pQ sz bytes ag (.bN []) xs sh ah=pP sz bytes ag (.bN []) xs sh:=rfl
theorem Gk {sz bytes τ:Nat} {ag:Bool} {xs:List PV}:pQ sz bytes ag (.own [] τ) xs sh ah=if ah[τ]?=some 0 then pP sz bytes ag (.own [] τ) xs sh else none:=rfl
theorem DM {sz bytes b z n:Nat} {ag g:Bool} {xs:List PV}:pQ sz bytes ag (.bI b z n g) xs sh ah=zK sz bytes ag b z n g xs sh sh[b]?:=by
 simp only [pQ,zK]
 rcases sh[b]? with _ | _ | cells<;>rfl
theorem Jc {sz bytes:Nat} {ag:Bool} {s:AV} {xs:List PV}:pP sz bytes ag s xs sh=if xs.isEmpty=true then some (s,sh) else if xs.length*bytes≤140737488355328 then some (.bI sh.length sz xs.length ag,sh++[some ((xs.flatMap br).map .pv)]) else none:=rfl
def LS (r:List Nat) (t:Nat) (st:St) (v:AV):Option PV→St
 | some p=>mw r { st with env:=dL st.env t (.pv p),sh:=dZ st.sh [v] }
 | none=>mw r (y9 v st)
def Gl (d:Nat) (cs:List AV) (st:St):Option (List PV)→St
 | some ps=>{ st with mem:=dL st.mem d (ps.map .pv),sh:=dZ st.sh [.agg cs] }
 | none=>st
def Gm (d:Nat) (st:St):Option (List AV)→St
 | some cs=>Gl d cs st (dQ st.sh cs)
 | none=>st
theorem DN {d:Nat} {st:St}:y9 (.aG d 0) st=Gm d st (look st.mem d):=by
 simp only [y9]
 cases look st.mem d with
 | none=>rfl
 | some cs=>
   simp only [Gm]
   cases dQ st.sh cs<;>rfl
theorem zL {d:Nat} {st:St} {cs:List AV}:Gm d st (some cs)=Gl d cs st (dQ st.sh cs):=rfl
theorem zM {d:Nat} {st:St} {cs:List AV} {ps:List PV}:Gl d cs st (some ps)={ st with mem:=dL st.mem d (ps.map .pv),sh:=dZ st.sh [.agg cs] }:=rfl
def LU (r:List Nat) (t:Nat) (st:St):Option AV→St
 | some v=>LS r t st v (dO st.sh v)
 | none=>mw r st
theorem Gn {st:St}:mw [] st=st:=rfl
theorem DO {t:Nat} {r:List Nat} {st:St}:mw (t::r) st=LU r t st (look st.env t):=by
 simp only [mw]
 cases look st.env t with
 | none=>rfl
 | some v=>
   simp only [LU]
   cases dO st.sh v<;>rfl
theorem DP {r:List Nat} {t:Nat} {st:St} {v:AV}:LU r t st (some v)=LS r t st v (dO st.sh v):=rfl
theorem DQ {r:List Nat} {t:Nat} {st:St} {v:AV}:LS r t st v none=mw r (y9 v st):=rfl
def PC (ah:aN):Option Sh→Option Out
 | some sh=>some ⟨.oP [],none,sh,ah⟩
 | none=>none
theorem DR {sh:Sh}:PC ah (some sh)=some ⟨.oP [],none,sh,ah⟩:=rfl
def LV (sz:Nat) (zero:List PV) (sh:Sh) (b off n:Nat):Option (Option (List AV))→Option Sh
 | some (some cells)=>if dC cells=false∧off+n*sz≤cells.length∧zero.length=sz then some (sh.set b (some (bo cells off (List.replicate n (zero.map .pv)).flatten))) else none
 | _=>none
theorem xv {sz b off n:Nat} {zero:List PV} {cells:List AV}:LV sz zero sh b off n (some (some cells))=if dC cells=false∧off+n*sz≤cells.length∧zero.length=sz then some (sh.set b (some (bo cells off (List.replicate n (zero.map .pv)).flatten))) else none:=rfl
def rp (sz:Nat) (sh:Sh) (ah:aN) (x:AV):Option (List PV)→Option Out
 | some xs=>Gp ah (qx sz sh xs x)
 | none=>none
where Gp (ah:aN):Option (Nat×Sh)→Option Out
 | some (k,sh')=>some ⟨.pv (.int .i64 (k:Int)),none,sh',ah⟩
 | none=>none
theorem xx {sz:Nat} {x:AV} {xs:List PV}:rp sz sh ah x (some xs)=rp.Gp ah (qx sz sh xs x):=rfl
theorem zN {k:Nat} {sh':Sh}:rp.Gp ah (some (k,sh'))=some ⟨.pv (.int .i64 (k:Int)),none,sh',ah⟩:=rfl
theorem ka {sz:Nat} {x y:AV}:exec O (.jk sz) [x,y] cells sh ah=rp sz sh ah x (cS y):=by
 simp only [exec,rp]
 cases cS y with
 | none=>rfl
 | some xs=>simp only;cases qx sz sh xs x<;>rfl
def Ns (sz:Nat) (sh:Sh) (xs:List PV) (b z n:Nat):Option (Option (List AV))→Option (Nat×Sh)
 | some (some cells)=>if z=sz∧bC sz xs=true∧dC cells=false∧n*sz≤cells.length then
       some (min xs.length n,sh.set b (some (bo cells 0 (((xs.take n).flatMap br).map .pv)))) else none
 | _=>none
theorem zP {sz b z n:Nat} {xs:List PV} {cells:List AV}:Ns sz sh xs b z n (some (some cells))=if z=sz∧bC sz xs=true∧dC cells=false∧n*sz≤cells.length then
       some (min xs.length n,sh.set b (some (bo cells 0 (((xs.take n).flatMap br).map .pv)))) else none:=rfl
theorem DS {s:Nat}:AK.key (.jk s)=none:=rfl
theorem DT:v_ [] []=true:=rfl
theorem zQ {a b:List UInt8} {r q:List PV}:v_ (.str a::r) (.str b::q)=((a == b) && v_ r q):=rfl
theorem zR {s:Nat} {z:List PV}:AK.key (.iA s z)=none:=rfl
theorem zT {sz b n:Nat} {ag lo hi:Bool} {rest:List AV}:cd (.qt sz lo hi) (.bI b sz n ag::rest)=m7 sz lo hi (.bI b sz n ag::rest):=rfl
theorem Gq {l:List PV}:cS (.pv (.aJ l))=some l:=rfl
theorem DU {l:List PV}:cS (.bN l)=some l:=rfl
theorem DV {l:List PV} {τ:Nat}:cS (.own l τ)=some l:=rfl
theorem zU {sz:Nat}:bC sz []=true:=rfl
theorem xy {sz:Nat} {p:PV} {r:List PV}:bC sz (p::r)=((br p).length == sz):=rfl
def LW (sh:Sh) (ah:aN):Option (List PV)→Option Out
 | some rs=>some ⟨qy rs,none,sh,ah⟩
 | none=>none
theorem DW {rs:List PV}:LW sh ah (some rs)=some ⟨qy rs,none,sh,ah⟩:=rfl
def Gr (O:ek) (g:Nat):Option (List PV)→Option (List PV)
 | some dt=>O.p g dt
 | none=>none
theorem mM {g:Nat} {dt:List PV}:Gr O g (some dt)=O.p g dt:=rfl
theorem zV {g:Nat}:exec O (.aq g) vals cells sh ah=LW sh ah (Gr O g (dz [] vals)):=by
 show (match dz [] vals with | some dt=>_ | none=>none)=_
 split
 · rename_i dt h
   rw [h,mM]
   cases O.p g dt<;>rfl
 · rename_i h;rw [h];rfl
theorem xz {g:Nat}:exec O (.dK g) vals cells sh ah=LW (dZ sh vals) ah (Gr O g (dz sh vals)):=by
 show (match dz sh vals with | some dt=>_ | none=>none)=_
 split
 · rename_i dt h
   rw [h,mM]
   cases O.p g dt<;>rfl
 · rename_i h;rw [h];rfl
def LX (n:Nat) (ts0:aN):Option (List AV×Sh×aN)→Option Out
 | some (rs,sh',ts)=>some ⟨qz (rs.map (dB n)),none,gW n sh',ts0++ts⟩
 | none=>none
theorem DX {n:Nat} {ts0:aN} {rs:List AV} {sh':Sh} {ts:aN}:LX n ts0 (some (rs,sh',ts))=some ⟨qz (rs.map (dB n)),none,gW n sh',ts0++ts⟩:=rfl
def B7 (O:ek) (g n:Nat) (q:List AV×Sh×aN×aN):Option Out:=LX n q.2.2.1 (O.i g q.1 q.2.1 q.2.2.2)
theorem Gs {g n:Nat} {a:List AV} {s:Sh} {o t:aN}:B7 O g n (a,s,o,t)=LX n o (O.i g a s t):=rfl
def B8 (O:ek) (g:Nat) (args:List AV) (sh:Sh) (ah:aN):Option Out:=
 if args.all cr=true then B7 O g ah.length (dj ah args sh) else none
theorem Gt {g:Nat} {args:List AV}:B8 O g args sh ah=if args.all cr=true then B7 O g ah.length (dj ah args sh) else none:=rfl
theorem xA {g:Nat} {own:List Nat}:(en O g own vals sh ah).map (fun (v,sh',ts)=>(⟨v,none,sh',ts⟩:Out))=B8 O g (e_ own 0 vals) sh ah:=by
 unfold en B8 B7
 split
 · cases O.i g (dj ah (e_ own 0 vals) sh).1 (dj ah (e_ own 0 vals) sh).2.1 (dj ah (e_ own 0 vals) sh).2.2.2 with
   | none=>rfl
   | some q=>obtain ⟨a,b,c⟩:=q;rfl
 · rfl
theorem zW {g:Nat} {own:List Nat}:exec O (.aI g own) vals cells sh ah=B8 O g (e_ own 0 vals) sh ah:=xA
def b2sO:Option (List UInt8)→Option AV
 | some s=>some (.pv (.str s))
 | none=>none
theorem b2sO_some {s:List UInt8}:b2sO (some s)=some (.pv (.str s)):=rfl
theorem zX {own:List Nat} {i:Nat}:e_ own i []=[]:=rfl
theorem xB {own:List Nat} {i:Nat} {v:AV} {r:List AV}:e_ own i (v::r)=(if own.contains i then v else kD v)::e_ own (i+1) r:=rfl
theorem Gu {p:PV}:kD (.pv p)=.pv p:=rfl
theorem DY {l:List PV}:kD (.bN l)=.pv (.aJ l):=rfl
theorem DZ {l:List PV} {τ:Nat}:kD (.own l τ)=.pv (.aJ l):=rfl
theorem zY {b o:Nat}:kD (.bu b o)=.bu b o:=rfl
theorem Gv {g:Nat} {cap:List AV}:kD (.fn g cap)=.fn g cap:=rfl
theorem zZ {b s n:Nat} {ag:Bool}:kD (.bI b s n ag)=.bI b s n ag:=rfl
def vf (cs:List AV):Option (List PV)→AV
 | some ps=>.pv (.agg ps)
 | none=>.agg cs
theorem D0 {cs:List AV}:kD (.agg cs)=vf cs (dQ [] cs):=by
 have h:dO [] (.agg cs)=(dQ [] cs).map .agg:=rfl
 unfold kD vf
 rw [h]
 cases dQ [] cs<;>rfl
theorem xC {cs:List AV} {ps:List PV}:vf cs (some ps)=.pv (.agg ps):=rfl
def nD {α:Type}:Option α→Option (List α)→Option (List α)
 | some x,some l=>some (x::l)
 | _,_=>none
theorem z5 {α:Type} {x:α} {l:List α}:nD (some x) (some l)=some (x::l):=rfl
theorem z6 {env:List (Nat×AV)}:ef env []=some []:=rfl
theorem xD {env:List (Nat×AV)} {x:eU} {r:List eU}:ef env (x::r)=nD (gT env x) (ef env r):=by
 simp only [ef]
 cases gT env x<;>cases ef env r<;>rfl
theorem Jd {env:List (Nat×AV)} {n:Nat}:gT env (.t n)=look env n:=rfl
theorem Je {env:List (Nat×AV)} {v:AV}:gT env (.c v)=some v:=rfl
theorem Gw:fE []=some []:=rfl
theorem ot {v:AV} {r:List AV}:fE (v::r)=nD (kV v) (fE r):=by
 simp only [fE]
 cases kV v<;>cases fE r<;>rfl
theorem z7:dz sh []=some []:=rfl
theorem xE {v:AV} {r:List AV}:dz sh (v::r)=nD (dO sh v) (dz sh r):=by
 simp only [dz]
 cases dO sh v<;>cases dz sh r<;>rfl
theorem D1:dQ sh []=some []:=rfl
theorem z8 {v:AV} {r:List AV}:dQ sh (v::r)=if bp v=true then nD (d8 sh v) (dQ sh r) else none:=by
 simp only [dQ]
 split
 · cases d8 sh v<;>cases dQ sh r<;>rfl
 · rfl
theorem Jf {p:PV}:kV (.pv p)=some p:=rfl
theorem LY {p:PV}:dO sh (.pv p)=some p:=rfl
theorem Jg {l:List PV}:dO sh (.bN l)=some (.aJ l):=rfl
theorem Jh {l:List PV} {τ:Nat}:dO sh (.own l τ)=some (.aJ l):=rfl
def Nt:Option (List PV)→Option PV
 | some ps=>some (.agg ps)
 | none=>none
theorem D2 {ps:List PV}:Nt (some ps)=some (.agg ps):=rfl
theorem Ji {cs:List AV}:dO sh (.agg cs)=Nt (dQ sh cs):=by
 simp only [dO]
 cases dQ sh cs<;>rfl
theorem z_ {p:PV}:d8 sh (.pv p)=some p:=rfl
theorem xF {l:List PV}:d8 sh (.bN l)=some (.aJ l):=rfl
theorem xG {l:List PV} {τ:Nat}:d8 sh (.own l τ)=some (.aJ l):=rfl
def Jj (sz n:Nat) (ag:Bool):Option (Option (List AV))→Option PV
 | some (some cells)=>if cells.length=n*sz then ((fE cells).bind (fF sz ag n)).map .aJ
   else if dC cells=false∧n*sz≤cells.length then ((fE (cells.take (n*sz))).bind (fF sz ag n)).map .aJ else none
 | _=>none
theorem vg {b sz n:Nat} {ag:Bool}:d8 sh (.bI b sz n ag)=Jj sz n ag sh[b]?:=rfl
theorem Gx {b sz n:Nat} {ag:Bool}:dO sh (.bI b sz n ag)=Jj sz n ag sh[b]?:=rfl
theorem D3 {sz n:Nat} {ag:Bool} {cells:List AV}:Jj sz n ag (some (some cells))=if cells.length=n*sz then ((fE cells).bind (fF sz ag n)).map .aJ else if dC cells=false∧n*sz≤cells.length then ((fE (cells.take (n*sz))).bind (fF sz ag n)).map .aJ else none:=rfl
theorem Gy {r:PV}:qy [r]=.pv r:=rfl
theorem Gz {a b:PV} {r:List PV}:qy (a::b::r)=.oP (.pv a::.pv b::r.map .pv):=rfl
theorem GA {r:AV}:qz [r]=r:=rfl
theorem GB:qz []=.oP []:=rfl
theorem GC {xs:List AV}:dj ah xs sh=((bQ ah [] xs).1,(cm (bQ ah [] xs).2.1 (bQ ah [] xs).2.2 sh).1,(cm (bQ ah [] xs).2.1 (bQ ah [] xs).2.2 sh).2.1,(cm (bQ ah [] xs).2.1 (bQ ah [] xs).2.2 sh).2.2):=rfl
theorem D4 {bh ts:aN}:bQ bh ts []=([],bh,ts):=rfl
theorem rq {bh ts:aN} {v:AV} {r:List AV}:bQ bh ts (v::r)=((cf bh ts v).1::(bQ (cf bh ts v).2.1 (cf bh ts v).2.2 r).1,(bQ (cf bh ts v).2.1 (cf bh ts v).2.2 r).2):=rfl
theorem D5 {bh ts:aN}:cm bh ts []=([],bh,ts):=rfl
theorem ru {bh ts:aN} {r:Sh}:cm bh ts (none::r)=(none::(cm bh ts r).1,(cm bh ts r).2):=rfl
theorem rz {bh ts:aN} {cs:List AV} {r:Sh}:cm bh ts (some cs::r)=(some (bQ bh ts cs).1::(cm (bQ bh ts cs).2.1 (bQ bh ts cs).2.2 r).1,(cm (bQ bh ts cs).2.1 (bQ bh ts cs).2.2 r).2):=rfl
theorem D6 {bh ts:aN}:dD bh ts []=([],bh,ts):=rfl
theorem Aa {bh ts:aN} {t:Nat} {v:AV} {r:List (Nat×AV)}:dD bh ts ((t,v)::r)=((t,(cf bh ts v).1)::(dD (cf bh ts v).2.1 (cf bh ts v).2.2 r).1,(dD (cf bh ts v).2.1 (cf bh ts v).2.2 r).2):=rfl
theorem D7 {bh ts:aN}:fc bh ts []=([],bh,ts):=rfl
theorem Ac {bh ts:aN} {t:Nat} {v:List AV} {r:List (Nat×List AV)}:fc bh ts ((t,v)::r)=((t,(bQ bh ts v).1)::(fc (bQ bh ts v).2.1 (bQ bh ts v).2.2 r).1,(fc (bQ bh ts v).2.1 (bQ bh ts v).2.2 r).2):=rfl
theorem D9 {bh ts:aN} {l:List PV} {τ:Nat}:cf bh ts (.own l τ)=if bh[τ]?=some l.length then (.own l ts.length,bh.set τ (l.length+1),ts++[l.length]) else (.pv (.aJ l),bh,ts):=rfl
theorem D_ {bh ts:aN} {l:List PV}:cf bh ts (.bN l)=(.own l ts.length,bh,ts++[l.length]):=rfl
theorem xH {bh ts:aN} {p:PV}:cf bh ts (.pv p)=(.pv p,bh,ts):=rfl
def GD (bh ts:aN) (p:List AV):Bool→AV×aN×aN
 | true=>(.agg p,bh,ts)
 | false=>(.agg (d6 bh ts p).1,(d6 bh ts p).2.1,(d6 bh ts p).2.2)
theorem D' {bh ts:aN} {p:List AV}:cf bh ts (.agg p)=GD bh ts p (cy.gr p):=by
 simp only [cf]
 cases cy.gr p<;>rfl
theorem xI {bh ts:aN} {p:List AV}:GD bh ts p true=(.agg p,bh,ts):=rfl
theorem Ad {bh ts:aN} {a b:Nat}:cf bh ts (.aG a b)=(.aG a b,bh,ts):=rfl
theorem Ae {bh ts:aN} {a b:Nat}:cf bh ts (.bu a b)=(.bu a b,bh,ts):=rfl
theorem Af {bh ts:aN} {a b c:Nat} {d:Bool}:cf bh ts (.bI a b c d)=(.bI a b c d,bh,ts):=rfl
theorem GF {bh ts:aN} {a:Nat} {c:List AV}:cf bh ts (.fn a c)=(.fn a c,bh,ts):=rfl
theorem Ag {s:Nat} {bh ts:aN}:cf bh ts (.jJ s)=((.jJ s),bh,ts):=rfl
theorem Ah {s:List (PV×PV)} {bh ts:aN}:cf bh ts (.fo s)=((.fo s),bh,ts):=rfl
theorem Jk {env:List (Nat×AV)} {mem:List (Nat×List AV)}:norm ⟨env,mem,sh,ah⟩ =
   { env:=(dD ah [] env).1,
     mem:=(fc (dD ah [] env).2.1 (dD ah [] env).2.2 mem).1,
     sh:=(cm (fc (dD ah [] env).2.1 (dD ah [] env).2.2 mem).2.1 (fc (dD ah [] env).2.1 (dD ah [] env).2.2 mem).2.2 sh).1,
     ah:=(cm (fc (dD ah [] env).2.1 (dD ah [] env).2.2 mem).2.1 (fc (dD ah [] env).2.1 (dD ah [] env).2.2 mem).2.2 sh).2.2 }:=rfl
theorem xJ {live:List Nat} {env:List (Nat×AV)} {mem:List (Nat×List AV)}:restrict live ⟨env,mem,sh,ah⟩=⟨ca live env live,cg mem live,sh,ah⟩:=rfl
def KI (live:List Nat) (t:Nat) (rest:List (Nat×AV)):Option AV→List (Nat×AV)
 | some v=>if ei live v=true then (t,v)::rest else rest
 | none=>rest
theorem Ai {live:List Nat} {t:Nat} {rest:List (Nat×AV)} {v:AV}:KI live t rest (some v)=if ei live v=true then (t,v)::rest else rest:=rfl
theorem pU {live:List Nat} {env:List (Nat×AV)}:ca live env []=[]:=rfl
theorem ou {live:List Nat} {env:List (Nat×AV)} {t:Nat} {r:List Nat}:ca live env (t::r)=KI live t (ca live env r) (look env t):=by
 show (match look env t with | some v=>_ | none=>_)=_
 cases look env t<;>rfl
def GG (t:Nat) (rest:List (Nat×List AV)):Option (List AV)→List (Nat×List AV)
 | some v=>(t,v)::rest
 | none=>rest
theorem Aj {t:Nat} {rest:List (Nat×List AV)} {v:List AV}:GG t rest (some v)=(t,v)::rest:=rfl
theorem Ak {t:Nat} {rest:List (Nat×List AV)}:GG t rest none=rest:=rfl
theorem pV {mem:List (Nat×List AV)}:cg mem []=[]:=rfl
theorem oz {mem:List (Nat×List AV)} {t:Nat} {r:List Nat}:cg mem (t::r)=GG t (cg mem r) (look mem t):=by
 show (match look mem t with | some v=>_ | none=>_)=_
 cases look mem t<;>rfl
theorem Al {live:List Nat} {d o:Nat}:ei live (.aG d o)=live.contains d:=rfl
theorem Ea {live:List Nat} {l:List PV} {τ:Nat}:ei live (.own l τ)=true:=rfl
theorem GH {live:List Nat} {p:PV}:ei live (.pv p)=true:=rfl
theorem Eb {live:List Nat} {l:List PV}:ei live (.bN l)=true:=rfl
theorem Am:fD []=true:=rfl
theorem xK {v:AV} {r:List AV}:fD (v::r)=(jl v && fD r):=rfl
theorem GI {p:PV}:jl (.pv p)=true:=rfl
theorem Ec {l:List PV}:jl (.bN l)=true:=rfl
theorem Ao {live:List Nat} {a b:Nat}:ei live (.bu a b)=true:=rfl
theorem Ap {live:List Nat} {a b c:Nat} {d:Bool}:ei live (.bI a b c d)=true:=rfl
theorem GJ {live:List Nat} {a:Nat} {c:List AV}:ei live (.fn a c)=cy.gr c:=rfl
theorem Aq {s:Nat} {live:List Nat}:ei live (.jJ s)=true:=rfl
theorem look_nil {α:Type} {t:Nat}:look ([]:List (Nat×α)) t=none:=rfl
theorem Ed {α:Type} {k t:Nat} {v:α} {r:List (Nat×α)}:look ((k,v)::r) t=if k=t then some v else look r t:=rfl
theorem GK {α:Type} {t:Nat} {v:α}:dL ([]:List (Nat×α)) t v=[(t,v)]:=rfl
theorem Ee {α:Type} {k t:Nat} {v u:α} {r:List (Nat×α)}:dL ((k,v)::r) t u=if k=t then (k,u)::r else (k,v)::dL r t u:=rfl
theorem Ef {env:List (Nat×AV)} {d:Nat} {v:AV}:fJ env (some d) v=dL env d v:=rfl
theorem Eg {env:List (Nat×AV)} {v:AV}:fJ env none v=env:=rfl
theorem Eh {mem:List (Nat×List AV)} {k:Nat} {cs:List AV}:eV mem (some k) (some cs)=dL mem k cs:=rfl
theorem fu {mem:List (Nat×List AV)} {o:Option (List AV)}:eV mem none o=mem:=rfl
theorem Au {mem:List (Nat×List AV)} {k:Nat}:eV mem (some k) none=mem:=rfl
theorem vh {i:Nat}:cE i []=[]:=rfl
theorem sW {i:Nat} {v:AV} {r:List AV}:cE i (v::r)=(i,v)::cE (i+1) r:=rfl
theorem Av {cs:List AV}:bB (.agg cs)=cs:=rfl
theorem xL {cs:List PV}:bB (.pv (.agg cs))=cs.map .pv:=rfl
theorem xM {b:Bool}:bB (.pv (.bool b))=[.pv (.bool b)]:=rfl
theorem Aw {k:IntKind} {n:Int}:bB (.pv (.int k n))=[.pv (.int k n)]:=rfl
theorem Ax {s:List UInt8}:bB (.pv (.str s))=[.pv (.str s)]:=rfl
theorem Ay {l:List PV}:bB (.pv (.aJ l))=[.pv (.aJ l)]:=rfl
theorem Az {l:List PV}:bB (.bN l)=[.bN l]:=rfl
theorem AA {l:List PV} {τ:Nat}:bB (.own l τ)=[.own l τ]:=rfl
theorem xN {a b c:Nat} {d:Bool}:bB (.bI a b c d)=[.bI a b c d]:=rfl
theorem AB {cs:List PV}:br (.agg cs)=cs:=rfl
theorem AD {k:IntKind} {n:Int}:br (.int k n)=[.int k n]:=rfl
theorem AE {s:List UInt8}:br (.str s)=[.str s]:=rfl
theorem AF {l:List PV}:br (.aJ l)=[.aJ l]:=rfl
theorem AG {b:Bool}:bp (.pv (.bool b))=true:=rfl
theorem Ei {k:IntKind} {n:Int}:bp (.pv (.int k n))=true:=rfl
theorem Ej {s:List UInt8}:bp (.pv (.str s))=true:=rfl
theorem Ek {l:List PV}:bp (.pv (.aJ l))=true:=rfl
theorem Em {l:List PV}:bp (.bN l)=true:=rfl
theorem Eo {l:List PV} {τ:Nat}:bp (.own l τ)=true:=rfl
theorem AH {a b c:Nat} {d:Bool}:bp (.bI a b c d)=true:=rfl
theorem GL {v:AV}:dP v=bp v:=rfl
theorem AI {a b:Nat}:cB (.bu a b)=true:=rfl
theorem Ep:cB.jL []=true:=rfl
theorem AJ {v:AV} {r:List AV}:cB.jL (v::r)=(cB v && cB.jL r):=rfl
theorem Er {l:List PV} {τ:Nat}:cr (.own l τ)=true:=rfl
theorem GM {p:PV}:cr (.pv p)=true:=rfl
theorem Es {l:List PV}:cr (.bN l)=true:=rfl
theorem AL {a b:Nat}:cr (.bu a b)=true:=rfl
theorem AM {a b c:Nat} {d:Bool}:cr (.bI a b c d)=true:=rfl
theorem GN {a:Nat} {c:List AV}:cr (.fn a c)=cB.jL c:=rfl
theorem Et {c:List AV}:cr (.agg c)=e8 c:=rfl
theorem AN:e8 []=true:=rfl
theorem xQ {v:AV} {r:List AV}:e8 (v::r)=(kE v && e8 r):=rfl
theorem GO {p:PV}:kE (.pv p)=true:=rfl
theorem Eu {l:List PV}:kE (.bN l)=true:=rfl
theorem AO {a b c:Nat} {d:Bool}:kE (.bI a b c d)=true:=rfl
theorem Ew:cy.gr []=true:=rfl
theorem AQ {v:AV} {r:List AV}:cy.gr (v::r)=(cy v && cy.gr r):=rfl
theorem GP {p:PV}:cy (.pv p)=true:=rfl
theorem Ey {l:List PV}:cy (.bN l)=true:=rfl
theorem AR {a b:Nat}:cy (.bu a b)=true:=rfl
theorem AS {a b c:Nat} {d:Bool}:cy (.bI a b c d)=true:=rfl
theorem Ez {n:Nat} {p:PV}:aV n (.pv p)=true:=rfl
theorem AT {n:Nat} {l:List PV}:aV n (.bN l)=true:=rfl
theorem AU {n:Nat} {l:List PV} {τ:Nat}:aV n (.own l τ)=true:=rfl
theorem xS {n a b c:Nat} {d:Bool}:aV n (.bI a b c d)=decide (a<n):=rfl
theorem AW {n:Nat} {c:List AV}:aV n (.agg c)=aV.cU n c:=rfl
theorem xT {n:Nat}:aV.cU n []=true:=rfl
theorem vi {n:Nat} {v:AV} {r:List AV}:aV.cU n (v::r)=(aV n v && aV.cU n r):=rfl
theorem AX {n τ:Nat} {l:List PV}:dB n (.own l τ)=.own l (τ+n):=rfl
theorem tP {n:Nat} {p:PV}:dB n (.pv p)=.pv p:=rfl
def B9 (n:Nat) (p:List AV):Bool→AV
 | true=>.agg p
 | false=>.agg (p.map (kW n))
theorem AY {n:Nat} {p:List AV}:dB n (.agg p)=B9 n p (cy.gr p):=by
 simp only [dB]
 cases cy.gr p<;>rfl
theorem vj {n:Nat} {p:List AV}:B9 n p true=.agg p:=rfl
theorem xU {n a b c:Nat} {d:Bool}:dB n (.bI a b c d)=.bI a b c d:=rfl
theorem AZ {n:Nat}:gW n []=[]:=rfl
theorem pz {n:Nat} {r:Sh}:gW n (none::r)=none::gW n r:=rfl
theorem pA {n:Nat} {cs:List AV} {r:Sh}:gW n (some cs::r)=some (cs.map (dB n))::gW n r:=rfl
theorem sX {b:Bool}:cd.zeroCell (.bool b)=.pv (.bool b):=rfl
theorem vk {k:IntKind} {n:Int}:cd.zeroCell (.int k n)=.pv (.int k n):=rfl
theorem vm {s:List UInt8}:cd.zeroCell (.str s)=.pv (.str s):=rfl
theorem vn:cd.zeroCell (.aJ [])=.bN []:=rfl
theorem xW {l:List PV} {τ:Nat}:cV (.own l τ)=[.own l τ]:=rfl
theorem A0 {p:PV}:cV (.pv p)=bB (.pv p):=rfl
def B_ (cs:List AV):Option (List PV)→List AV
 | some ps=>ps.map .pv
 | none=>cs
theorem xX {cs:List AV}:cV (.agg cs)=B_ cs (dQ [] cs):=by
 show (match dO [] (.agg cs) with | some p=>bB (.pv p) | none=>bB (.agg cs))=_
 have h:dO [] (.agg cs)=(dQ [] cs).map .agg:=rfl
 unfold B_
 rw [h]
 cases dQ [] cs<;>rfl
theorem A1 {cs:List AV} {ps:List PV}:B_ cs (some ps)=ps.map .pv:=rfl
theorem rA {cs:List AV}:B_ cs none=cs:=rfl
theorem Nu {o:sH}:AK.key (.v o)=none:=rfl
theorem EA {k o s:Nat} {a:Bool}:AK.key (.aS k o s a)=some k:=rfl
theorem A3 {k o s:Nat}:AK.key (.cR k o s)=some k:=rfl
theorem EB {k:Nat} {z:List PV}:AK.key (.alloc k z)=some k:=rfl
theorem Jl {k s:Nat}:AK.key (.box k s)=some k:=rfl
theorem EC {s:Nat} {a:Bool}:AK.key (.bf s a)=none:=rfl
theorem A4 {s:Nat}:AK.key (.cb s)=none:=rfl
theorem GQ {s:Nat}:AK.key (.me s)=none:=rfl
theorem A5 {s:List PV}:AK.key (.iT s)=none:=rfl
theorem ED {s b:Nat} {a:Bool} {z:List PV}:AK.key (.ik s b a z)=none:=rfl
theorem xY {s b:Nat} {ag:Bool}:AK.key (.db s b ag)=none:=rfl
theorem A6 {s b:Nat}:AK.key (.append s b)=none:=rfl
theorem EE {g:Nat}:AK.key (.aq g)=none:=rfl
theorem A7 {g:Nat}:AK.key (.dK g)=none:=rfl
theorem EF {g:Nat} {o:List Nat}:AK.key (.aI g o)=none:=rfl
theorem EG {sz bytes:Nat}:(AK.clone sz bytes).key=none:=rfl
theorem EH:AK.key .fU=none:=rfl
theorem bind_none {f:Nat→Option (List AV)}:(none:Option Nat).bind f=none:=rfl
theorem bind_some {f:Nat→Option (List AV)} {n:Nat}:(some n).bind f=f n:=rfl
theorem A8 {sz off:Nat} {cs:List AV}:cz true sz cs off=if off+sz≤cs.length then some (.agg ((cs.drop off).take sz)) else none:=rfl
theorem xZ {off:Nat} {cs:List AV}:cz false 1 cs off=if off+1≤cs.length then cs[off]? else none:=rfl
theorem x4 {sz:Nat} {cs:List PV}:de true sz cs=if sz≤cs.length then some (.pv (.agg (cs.take sz))) else none:=rfl
theorem vp {c:PV} {cs:List PV}:de false 1 (c::cs)=some (.pv c):=by simp [de]
theorem aK {cs vs:List AV} {off:Nat}:bo cs off vs=cs.take off++vs++cs.drop (off+vs.length):=rfl
theorem LZ {x:AV}:cd .mv [x]=some x:=rfl
theorem GR {c:Bool} {a b:AV}:cd .pick [.pv (.bool c),a,b]=if c=true then some a else some b:=by cases c<;>rfl
theorem Jm {i:Nat} {vs:List AV}:cd (.ext i) [.oP vs]=vs[i]?:=rfl
theorem A9 {off d o:Nat}:cd (.aR off) [.aG d o]=some (.aG d (o+off)):=rfl
theorem A_ {off d o:Nat}:cd (.aR off) [.bu d o]=some (.bu d (o+off)):=rfl
theorem A' {off:Nat} {cs:List PV}:cd (.aR off) [.fR cs]=some (.fR (cs.drop off)):=rfl
def vq (sz:Nat):Option PV→Option AV
 | some el=>if (br el).length=sz then some (.fR (br el)) else none
 | none=>none
theorem x5 {sz:Nat} {el:PV}:vq sz (some el)=if (br el).length=sz then some (.fR (br el)) else none:=rfl
theorem EI {sz:Nat} {l:List PV} {k:IntKind} {i:Int}:cd (.aB sz) [.pv (.aJ l),.pv (.int k i)]=if i<0 then none else vq sz l[i.toNat]?:=by
 show (if i<0 then none else _)=_
 split
 · rfl
 · show (match l[i.toNat]? with | some el=>_ | none=>_)=_
   cases l[i.toNat]?<;>rfl
theorem Ba {sz:Nat} {l:List PV} {k:IntKind} {i:Int}:cd (.aB sz) [.bN l,.pv (.int k i)]=if i<0 then none else vq sz l[i.toNat]?:=by
 show (if i<0 then none else _)=_
 split
 · rfl
 · show (match l[i.toNat]? with | some el=>_ | none=>_)=_
   cases l[i.toNat]?<;>rfl
theorem Bb {sz τ:Nat} {l:List PV} {k:IntKind} {i:Int}:cd (.aB sz) [.own l τ,.pv (.int k i)]=if i<0 then none else vq sz l[i.toNat]?:=by
 show (if i<0 then none else _)=_
 split
 · rfl
 · show (match l[i.toNat]? with | some el=>_ | none=>_)=_
   cases l[i.toNat]?<;>rfl
theorem Bc {sz b sz' n:Nat} {ag:Bool} {k:IntKind} {i:Int}:cd (.aB sz) [.bI b sz' n ag,.pv (.int k i)]=if i<0 then none else if sz=sz'∧i.toNat<n then some (.bu b (i.toNat*sz)) else none:=rfl
def Nv:Option (List AV)→Option AV
 | some cs=>some (.agg cs)
 | none=>none
theorem EJ {cs:List AV}:Nv (some cs)=some (.agg cs):=rfl
theorem EK {zero:List PV} {places:List (Nat×Nat)}:cd (.build zero places) vals=Nv (kC (zero.map cd.zeroCell) places vals):=by
 show (kC _ _ _).map _=_
 cases kC (zero.map cd.zeroCell) places vals<;>rfl
theorem EL {cs:List AV}:kC cs [] []=some cs:=rfl
theorem Be {cs:List AV} {off sz:Nat} {ps:List (Nat×Nat)} {v:AV} {vs:List AV}:kC cs ((off,sz)::ps) (v::vs) =
   if (bB v).length=sz∧off+sz≤cs.length∧(bB v).all bp=true then kC (bo cs off (bB v)) ps vs else none:=rfl
def Nw (sz:Nat):Option (List PV)→Option AV
 | some els=>if els.all (fun e=>(br e).length == sz) then some (.bN els) else none
 | none=>none
theorem EM {sz:Nat} {els:List PV}:Nw sz (some els)=if els.all (fun e=>(br e).length == sz) then some (.bN els) else none:=rfl
theorem Bf {sz:Nat}:cd (.aU sz) vals=Nw sz (dz [] vals):=by
 show (dz [] vals).bind _=_
 cases dz [] vals<;>rfl
theorem EN {sz:Nat} {ag:Bool} {cs:List PV}:cd (.bF sz ag) [.fR cs]=de ag sz cs:=rfl
theorem Jn {l:List PV}:cd .len [.pv (.aJ l)]=some (.pv (.int .i64 l.length)):=rfl
theorem GS {l:List PV}:cd .len [.bN l]=some (.pv (.int .i64 l.length)):=rfl
theorem GU {l:List PV} {τ:Nat}:cd .len [.own l τ]=some (.pv (.int .i64 l.length)):=rfl
theorem GV {a b n:Nat} {d:Bool}:cd .len [.bI a b n d]=some (.pv (.int .i64 n)):=rfl
theorem GW {a b:Nat}:cd .bm [.bu a b]=some (.bu a b):=rfl
theorem L0 {k k':IntKind} {x y:Int}:cd .mn [.pv (.int k x),.pv (.int k' y)]=if k=k' then some (.pv (.int k (if y<x then y else x))) else none:=rfl
theorem L1 {k k':IntKind} {x y:Int}:cd .mx [.pv (.int k x),.pv (.int k' y)]=if k=k' then some (.pv (.int k (if y > x then y else x))) else none:=rfl
theorem GX {k k':IntKind} {n:Int}:cd (.conv k) [.pv (.int k' n)]=some (.pv (.int k (k.wrap n))):=rfl
theorem Jo {b:Bool}:cd (.un .not) [.pv (.bool b)]=some (.pv (.bool !b)):=rfl
theorem Jp {a b:Bool}:cd (.beq true) [.pv (.bool a),.pv (.bool b)]=some (.pv (.bool !(a == b))):=rfl
theorem Jq {k:IntKind} {a b:Int}:cd (.bin .add) [.pv (.int k a),.pv (.int k b)]=some (.pv (.int k (k.wrap (a+b)))):=by simp [cd,dR]
theorem Jr {k:IntKind} {a b:Int}:cd (.bin .sub) [.pv (.int k a),.pv (.int k b)]=some (.pv (.int k (k.wrap (a-b)))):=by simp [cd,dR]
theorem Js {k:IntKind} {a b:Int}:cd (.bin .rem) [.pv (.int k a),.pv (.int k b)]=if b=0 then none else some (.pv (.int k (a.tmod b))):=by simp [cd,dR]
theorem Jt {k:IntKind} {a b:Int}:cd (.bin .eql) [.pv (.int k a),.pv (.int k b)]=some (.pv (.bool (a == b))):=by simp [cd,dR]
theorem Ju {k:IntKind} {a b:Int}:cd (.bin .neq) [.pv (.int k a),.pv (.int k b)]=some (.pv (.bool (a != b))):=by simp [cd,dR]
theorem Jv {k:IntKind} {a b:Int}:cd (.bin .lss) [.pv (.int k a),.pv (.int k b)]=some (.pv (.bool (decide (a<b)))):=by simp [cd,dR]
theorem Jw {k:IntKind} {a b:Int}:cd (.bin .leq) [.pv (.int k a),.pv (.int k b)]=some (.pv (.bool (decide (a≤b)))):=by simp [cd,dR]
theorem Jx {k:IntKind} {a b:Int}:cd (.bin .gtr) [.pv (.int k a),.pv (.int k b)]=some (.pv (.bool (decide (a > b)))):=by simp [cd,dR]
theorem Jy {k:IntKind} {a b:Int}:cd (.bin .geq) [.pv (.int k a),.pv (.int k b)]=some (.pv (.bool (decide (a≥b)))):=by simp [cd,dR]
theorem Jz {k:IntKind} {a b:Int}:cd (.bin .and) [.pv (.int k a),.pv (.int k b)]=some (.pv (.int k (k.wrap (BitVec.ofInt k.bits a &&& BitVec.ofInt k.bits b).toNat))):=by simp [cd,dR]
theorem JA {k k':IntKind} {a b:Int}:cd (.bin .shr) [.pv (.int k a),.pv (.int k' b)]=if b<0 then none else some (.pv (.int k (a.fdiv (2 ^ (min b.toNat k.bits))))):=by simp [cd,dR]
theorem JB {a b:List UInt8}:cd (.bin .add) [.pv (.str a),.pv (.str b)]=if a.length+b.length≤9223372036854775807 then some (.pv (.str (a++b))) else none:=rfl
theorem GY {a b:List UInt8}:cd (.bin .eql) [.pv (.str a),.pv (.str b)]=some (.pv (.bool (a == b))):=rfl
theorem GZ {a b:List UInt8}:cd (.bin .neq) [.pv (.str a),.pv (.str b)]=some (.pv (.bool (!(a == b)))):=rfl
theorem EO {sz:Nat} {lo hi mx:Bool} {x:AV} {rest:List AV}:cd (.slice false sz lo hi mx) (x::rest)=dc false sz lo hi mx (x::rest):=rfl
theorem Bg {sz:Nat} {lo hi mx:Bool} {x:AV} {rest:List AV}:cd (.slice true sz lo hi mx) (x::rest)=dc true sz lo hi mx (x::rest):=rfl
def mN (bq ks:Bool) (sh0 sh:Sh) (ah:aN):Option (List AV)→Option (List AV×Sh×aN)
 | some vs=>if (cN bq ks sh vs).all cr=true then
     some ((dj ah (cN bq ks sh vs) (if (cN bq ks sh vs).all (aV sh0.length)=true then (eQ bq ks sh vs).take sh0.length else eQ bq ks sh vs)).1,
       (dj ah (cN bq ks sh vs) (if (cN bq ks sh vs).all (aV sh0.length)=true then (eQ bq ks sh vs).take sh0.length else eQ bq ks sh vs)).2.1,
       (dj ah (cN bq ks sh vs) (if (cN bq ks sh vs).all (aV sh0.length)=true then (eQ bq ks sh vs).take sh0.length else eQ bq ks sh vs)).2.2.2) else none
 | none=>none
theorem x6 {bq ks:Bool} {sh0:Sh} {vs:List AV}:mN bq ks sh0 sh ah (some vs)=if (cN bq ks sh vs).all cr=true then
     some ((dj ah (cN bq ks sh vs) (if (cN bq ks sh vs).all (aV sh0.length)=true then (eQ bq ks sh vs).take sh0.length else eQ bq ks sh vs)).1,
       (dj ah (cN bq ks sh vs) (if (cN bq ks sh vs).all (aV sh0.length)=true then (eQ bq ks sh vs).take sh0.length else eQ bq ks sh vs)).2.1,
       (dj ah (cN bq ks sh vs) (if (cN bq ks sh vs).all (aV sh0.length)=true then (eQ bq ks sh vs).take sh0.length else eQ bq ks sh vs)).2.2.2) else none:=rfl
def fin (bq ks:Bool) (rs:List qv) (sh0:Sh):Option (bG×St)→Option (List AV×Sh×aN)
 | some (.ret,st)=>mN bq ks sh0 st.sh st.ah (eo st rs)
 | some (.normal,st)=>mN bq ks sh0 st.sh st.ah (eo st rs)
 | _=>none
theorem JC {bq ks:Bool} {rs:List qv} {sh0:Sh} {st:St}:fin bq ks rs sh0 (some (.ret,st))=mN bq ks sh0 st.sh st.ah (eo st rs):=rfl
theorem Bh {bq ks:Bool} {rs:List qv} {sh0:Sh} {st:St}:fin bq ks rs sh0 (some (.normal,st))=mN bq ks sh0 st.sh st.ah (eo st rs):=rfl
theorem JD {bq ks:Bool} {rs:List qv} {sh0:Sh} {c:Prop} [Decidable c] {x y:Option (bG×St)}:fin bq ks rs sh0 (if c then x else y)=if c then fin bq ks rs sh0 x else fin bq ks rs sh0 y:=by split<;>rfl
theorem tQ {bq:Bool} {af:aD} {sh0:Sh} {r:Option (bG×St)}:finish bq af sh0 r=fin bq af.ks af.results sh0 r:=by
 cases r with
 | none=>rfl
 | some q=>
   obtain ⟨e,st⟩:=q
   cases e with
   | ret=>simp only [finish,fin];cases eo st af.results<;>simp [mN]
   | normal=>simp only [finish,fin];cases eo st af.results<;>simp [mN]
   | exit id=>simp [finish,fin]
theorem Bi {st:St}:eo st []=some []:=rfl
theorem x7 {st:St} {r:qv} {rs:List qv}:eo st (r::rs)=nD (oR st r) (eo st rs):=by
 simp only [eo]
 cases oR st r<;>cases eo st rs<;>rfl
theorem JE {st:St} {n:Nat}:oR st (.t n)=look st.env n:=rfl
def nE (key sz:Nat) (ag:Bool) (mem:List (Nat×List AV)) (sh:Sh):Option AV→Option AV
 | some (.aG d 0)=>vt key d sz ag (look mem key)
 | some (.bu s 0)=>u_ ag sz 0 sh[s]?
 | _=>none
where vt (key d sz:Nat) (ag:Bool):Option (List AV)→Option AV
 | some cs=>if d=key then cz ag sz cs 0 else none
 | none=>none
theorem JF {st:St} {key sz:Nat} {ag:Bool}:oR st (.c key sz ag)=nE key sz ag st.mem st.sh (look st.env key):=by
 simp only [oR]
 unfold nE
 split
 · rename_i h;rw [h];rfl
 · rename_i h;rw [h];rfl
 · rename_i h1 h2
   split
   · rename_i d e;exact absurd e (h1 d)
   · rename_i s e;exact absurd e (h2 s)
   · rfl
theorem vu {key sz d:Nat} {ag:Bool} {mem:List (Nat×List AV)}:nE key sz ag mem sh (some (.aG d 0))=nE.vt key d sz ag (look mem key):=rfl
theorem vv {key sz d:Nat} {ag:Bool} {cs:List AV}:nE.vt key d sz ag (some cs)=if d=key then cz ag sz cs 0 else none:=rfl
theorem vw {vs:List AV} {ks:Bool}:cN false ks sh vs=vs.map (qC sh):=rfl
theorem x8 {vs:List AV}:cN true false sh vs=vs.map (za sh):=rfl
theorem EP {vs:List AV}:cN true true sh vs=vs:=rfl
theorem x9 {vs:List AV} {ks:Bool}:eQ false ks sh vs=dZ sh vs:=rfl
theorem Bj {vs:List AV}:eQ true false sh vs=dZ sh vs:=rfl
theorem G5 {vs:List AV}:eQ true true sh vs=sh:=rfl
def Nx (v:AV):Option PV→AV
 | some p=>.pv p
 | none=>v
theorem ER {v:AV} {p:PV}:Nx v (some p)=.pv p:=rfl
theorem G8 {v:AV}:qC sh v=Nx v (dO sh v):=rfl
theorem G9 {l:List PV} {τ:Nat}:za sh (.own l τ)=.own l τ:=rfl
theorem G_ {cs:List AV}:za sh (.agg cs)=.agg (cs.map (sK sh)):=rfl
theorem JG {p:PV}:za sh (.pv p)=.pv p:=rfl
theorem Ha {l:List PV}:sK sh (.bN l)=.bN l:=rfl
theorem Hb {l:List PV} {τ:Nat}:sK sh (.own l τ)=.pv (.aJ l):=rfl
theorem Hc {k:IntKind} {n:Int}:sK sh (.pv (.int k n))=.pv (.int k n):=rfl
theorem He {s:List UInt8}:sK sh (.pv (.str s))=.pv (.str s):=rfl
theorem Hf {l:List PV}:sK sh (.pv (.aJ l))=.pv (.aJ l):=rfl
theorem Bk {vs:List AV}:dZ sh vs=kill sh (vs.flatMap eZ):=rfl
theorem Hg:kill sh []=sh:=rfl
theorem ES {b:Nat} {l:List Nat}:kill sh (b::l)=kill (sh.set b none) l:=rfl
theorem ET {a b c:Nat} {d:Bool}:eZ (.bI a b c d)=[a]:=rfl
theorem JH {p:PV}:eZ (.pv p)=[]:=rfl
theorem Hh {l:List PV} {τ:Nat}:eZ (.own l τ)=[]:=rfl
theorem Hi {l:List PV}:eZ (.bN l)=[]:=rfl
def tR:AV→List Nat
 | .bI b _ _ _=>[b]
 | _=>[]
theorem Hj {cs:List AV}:eZ (.agg cs)=cs.flatMap tR:=by
 show cs.flatMap _=cs.flatMap tR
 congr 1
theorem Bl {a b c:Nat} {d:Bool}:tR (.bI a b c d)=[a]:=rfl
theorem Hk {p:PV}:tR (.pv p)=[]:=rfl
theorem EU {l:List PV} {τ:Nat}:tR (.own l τ)=[]:=rfl
theorem EV {l:List PV}:tR (.bN l)=[]:=rfl
theorem Bm:fK []=some []:=rfl
theorem x_ {p:PV} {r:List AV}:fK (.pv p::r)=nD (some p) (fK r):=by
 simp only [fK]
 cases fK r<;>rfl
def lW:Option (List AV×Sh×aN)→Option (List PV)
 | some (rs,_,_)=>fK rs
 | none=>none
theorem vz {rs:List AV} {t:aN}:lW (some (rs,sh,t))=fK rs:=rfl
theorem ya {c:Prop} [Decidable c] {x y:Option (List AV×Sh×aN)}:lW (if c then x else y)=if c then lW x else lW y:=by split<;>rfl
theorem aw {g:Nat} {af:aD} {x:List PV} (hg:AP g=some af) (h1:x.length=af.nparams) (h2:af.nparams≤af.ntmps) (hp:af.pO=none:=by rfl) :
   (aQ AP).p g x=lW (fin false af.ks af.results [] (cl AP af.body ⟨cE 0 (x.map .pv),[],[],[]⟩)):=by
 rw [KF hg hp h1 (by omega)]
 unfold ml lW
 rw [tQ]
 cases fin false af.ks af.results [] (cl AP af.body ⟨cE 0 (x.map .pv),[],[],[]⟩)<;>rfl
theorem aT {g:Nat} {af:aD} {x:List AV} {ts:aN} (hg:AP g=some af) (h2:x.length≤af.ntmps) :
   (aQ AP).i g x sh ts=fin true af.ks af.results sh (cl AP af.body ⟨cE 0 x,[],sh,ts⟩):=by
 rw [KH hg h2,←tQ]
 rfl
end
attribute [simp] DA xq DB xt zH ja Dy zG Ge Dz Di xg Dj xh zy uW Dk zz Dl uX Dm zA Dn Dp zB uY xj zD Ga I_ Nn Ja Gb Gc Dv Dw xm zE zF Dx LQ hU iu i_ lg xn pw xp nC iv lO jr j_ DH Gf js sV DI DJ Gq DU DV zU xy DW mM zV xz DX Gs Gt zW zX xB Gu DY DZ zY Gv zZ D0 xC z5 z6 xD Jd Je Gw ot z7 xE D1 z8 Jf LY Jg Jh D2 Ji z_ xF xG vg Gx D3 Gy Gz GA GB GC D4 rq D5 ru rz D6 Aa D7 Ac D9 D_ xH D' Ad Ae Af GF Jk xJ Ai pU ou Aj Ak pV oz Al Ea GH Eb Ao Ap GJ look_nil Ed GK Ee Ef Eg Eh fu Au vh sW Av xL xM Aw Ax Ay Az AA xN AB AD AE AF AG Ei Ej Ek Em Eo AH GL AI Ep AJ Er GM Es AL AM GN Et Ew AQ GP Ey AR AS Ez AT AU xS AW xT vi AX tP AY xU AZ pz pA sX vk vm vn xW A0 xX A1 rA Nu EA A3 EB Jl EC A4 GQ A5 ED A6 EE A7 EF EH b2sO_some bind_none bind_some A8 xZ x4 vp aK LZ GR Jm A9 A_ A' x5 EI Ba Bb Bc EJ EK EL Be EM Bf EN Jn GS GU GV GW L0 L1 GX Jo Jp Jq Jr Js Jt Ju Jv Jw Jx Jy Jz JA JB GY GZ EO Bg x6 JC Bh JD Bi x7 JE JF vu vv vw x8 ER G8 G9 G_ JG Ha Hb Hc He Hf Bk Hg ES ET JH Hh Hi Hj Bl Hk EU EV Bm x_ vz ya Ag Ah Aq Jb mC sU zI DC DD EG DE DF xI Am xK GI Ec AN xQ GO Eu AO vj EP x9 Bj G5 DL Gg zJ kb xu Gj Gk DM Jc Gn DO DP DQ DN zL zM LM xY DR xv zR xx zN ka zP DS DT zQ zT LP I6 I7 LN F9 List.getElem?_cons_zero
theorem aA {n:Int} (h1:-9223372036854775808≤n) (h2:n≤9223372036854775807):IntKind.i64.wrap n=n:=by
 simp [IntKind.wrap,IntKind.bits,IntKind.signed]
 omega
end Go.Ab.Ev
