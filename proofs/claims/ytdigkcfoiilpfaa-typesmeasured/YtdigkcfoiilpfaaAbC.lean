import Derived.Test.YtdigkcfoiilpfaaAbB
import Derived.RangeFuncIn
import Derived.RangeFuncRecord
import Derived.RangeFuncSeq
import Derived.RangeFuncLeaves
import Derived.WalkKit
import Derived.ProofKit
import Derived.OpenShut
import Derived.Carry
/-
  Rules for running slim code by the simplifier: each is an equation on constructors.
  Ranges over a slice backward: the iterator's contract.
  slices.Clone: its argument appended to an empty slice.
  A drawn region that appends a struct: a zero element is appended, then the struct is stored over it, before or behind the store of the slice.
  Code and functions: what the evaluator gives is what the model does.
  Functions: n levels of calls of the evaluator are what the model does.
  The pieces of a function's code by their places: for functions that are known by their code's shape.
  From the rows' readings to pure data, and from what the evaluator gives to a law's contract.
-/
set_option linter.unusedVariables false
set_option linter.unusedSimpArgs false
set_option linter.unnecessarySimpa false
set_option maxRecDepth 100000
set_option maxHeartbeats 8000000
namespace Go.Ab.Ev
section
variable {AP:Nat→Option aw} {O:dh}
noncomputable def branch (AP:Nat→Option aw) (o:Option AV) (a b:aq) (st:St):Option (aG×St):=
 match o with
 | some (.pv (.bool t))=>if t=true then cl AP a st else cl AP b st
 | _=>none
theorem zD {c:dL} {a b:aq} {st:St}:cl AP (.cond c a b) st=branch AP (b_ st.env c) a b st:=by
 unfold branch
 split
 · rename_i t h
   rw [ET h]
 · rename_i h
   unfold cl
   refine n_ fun k=>?_
   simp only [bX]
theorem tn {t:Bool} {a b:aq} {st:St}:branch AP (some (.pv (.bool t))) a b st=if t=true then cl AP a st else cl AP b st:=rfl
def oh (live:List Nat):Option St→Option (aG×St)
 | some st=>some (.normal,restrict live st)
 | none=>none
theorem zE {ops:List cr} {live:List Nat} {st:St}:cl AP (.kb ops live) st=oh live (aW (aC AP) ops st):=by
 rw [GK]
 cases aW (aC AP) ops st<;>rfl
theorem tq {live:List Nat} {st:St}:oh live (some st)=some (.normal,restrict live st):=rfl
theorem vu {live:List Nat} {c:Prop} [Decidable c] {x y:Option St}:oh live (if c then x else y)=if c then oh live x else oh live y:=by split<;>rfl
theorem rb {f:St→Option (aG×St)} {st:St}:after f (some (.normal,st))=f st:=rfl
theorem zF {f:St→Option (aG×St)} {st:St}:after f (some (.ret,st))=some (.ret,st):=rfl
theorem vv {f:St→Option (aG×St)} {st:St} {id:Nat}:after f (some (.exit id,st))=some (.exit id,st):=rfl
theorem zG {f:St→Option (aG×St)} {c:Prop} [Decidable c] {x y:Option (aG×St)}:after f (if c then x else y)=if c then after f x else after f y:=by split<;>rfl
theorem re {id:Nat} {st:St}:leave id (some (.normal,st))=some (.normal,st):=rfl
theorem zH {id:Nat} {st:St}:leave id (some (.ret,st))=some (.ret,st):=rfl
theorem vw {id id':Nat} {st:St}:leave id (some (.exit id',st))=if id'=id then some (.normal,st) else some (.exit id',st):=rfl
theorem zI {id:Nat} {c:Prop} [Decidable c] {x y:Option (aG×St)}:leave id (if c then x else y)=if c then leave id x else leave id y:=by split<;>rfl
def rf (O:dh) (l:List cr):Option St→Option St
 | some st=>aW O l st
 | none=>none
theorem zJ {st:St}:aW O [] st=some st:=rfl
theorem iT {o:cr} {l:List cr} {st:St}:aW O (o::l) st=rf O l (bj O o st):=by
 simp only [aW]
 cases bj O o st<;>rfl
theorem vA {d:Option Nat} {args:List dL} {op:AK} {l:List cr} {st:St}:aW O (⟨d,none,args,op⟩::l) st=rf O l (bj O ⟨d,none,args,op⟩ st):=iT
theorem rh {l:List cr} {st:St}:rf O l (some st)=aW O l st:=rfl
def Cw (d k:Option Nat) (env:List (Nat×AV)) (mem:List (Nat×List AV)):Option Out→Option St
 | some out=>some { env:=dz env d out.val,mem:=dr mem k out.cells,sh:=out.sh,aa:=out.aa }
 | none=>none
def Cx (O:dh) (op:AK) (vals:Option (List AV)) (cells:Option (List AV)) (sh:Sh) (aa:al):Option Out:=
 match vals with
 | some vals=>exec O op vals cells sh aa
 | none=>none
theorem vB {d:Option Nat} {args:List dL} {op:AK} {env:List (Nat×AV)} {mem:List (Nat×List AV)} {sh:Sh} {aa:al} :
   bj O ⟨d,none,args,op⟩ ⟨env,mem,sh,aa⟩=Cw d op.key env mem (Cx O op (bc env args) (op.key.bind (look mem)) sh aa):=by
 simp only [bj,a_]
 cases bc env args with
 | none=>rfl
 | some vals=>
   dsimp only [Cx]
   cases exec O op vals (op.key.bind (look mem)) sh aa<;>rfl
def oi (t:Nat) (b:Bool) (o:cr):cr:=
 match o.guard with
 | some (t',b')=>if t'=t then (if b'=b then { o with guard:=none } else ⟨o.dst,none,[.c .un],.v .mv⟩) else o
 | none=>o
def EA (t:Nat):List cr→Bool
 | []=>true
 | o::l=>(o.dst != some t) && EA t l
theorem jU {α:Type} {t t':Nat} {v:α}:∀{l:List (Nat×α)},look (bN l t v) t'=if t'=t then some v else look l t'
 | []=>by
   simp only [bN,look]
   by_cases h:t'=t
   · subst h;simp
   · rw [if_neg (fun e=>h e.symm),if_neg h]
 | (k,u)::r=>by
   simp only [bN]
   by_cases hk:k=t
   · subst hk
     simp only [if_true,look]
     by_cases h:t'=k
     · subst h;simp
     · rw [if_neg (fun e=>h e.symm),if_neg h,if_neg (fun e=>h e.symm)]
   · rw [if_neg hk]
     simp only [look,jU (l:=r)]
     by_cases h:k=t'
     · subst h;simp [hk]
     · rw [if_neg h,if_neg h]
theorem lL {α:Type} {t:Nat} {v:α}:∀{l:List (Nat×α)},look l t=some v→bN l t v=l
 | [],h=>by simp [look] at h
 | (k,u)::r,h=>by
   simp only [look] at h
   simp only [bN]
   split at h
   · rename_i e;cases h;rw [if_pos e]
   · rename_i e;rw [if_neg e,lL h]
theorem lM {o:cr} {st st':St} {t:Nat} {v:AV} (hd:(o.dst != some t)=true) (h:look st.env t=some v) (e:bj O o st=some st'):look st'.env t=some v:=by
 have key:∀x,look (dz st.env o.dst x) t=some v:=by
   intro x
   cases hdd:o.dst with
   | none=>exact h
   | some d=>
     rw [hdd] at hd
     simp only [dz,jU]
     rw [if_neg (by intro e;subst e;simp at hd)]
     exact h
 simp only [bj] at e
 split at e
 · cases e
 · cases e;exact key _
 · split at e
   · cases e
   · split at e
     · cases e
     · cases e;exact key _
theorem zK {o:cr} {st:St} {t:Nat} {b:Bool} (h:look st.env t=some (.pv (.bool b))):bj O o st=bj O (oi t b o) st:=by
 obtain ⟨d,g,args,op⟩:=o
 cases g with
 | none=>rfl
 | some p=>
   obtain ⟨t',b'⟩:=p
   simp only [oi]
   by_cases ht:t'=t
   · subst ht
     rw [if_pos rfl]
     by_cases hb:b'=b
     · subst hb
       rw [if_pos rfl]
       simp only [bj,a_,h,beq_self_eq_true]
     · rw [if_neg hb]
       have hb':(b == b')=false:=by simpa using fun e=>hb e.symm
       simp only [bj,a_,h,hb']
       obtain ⟨env,mem,sh,aa⟩:=st
       rfl
   · rw [if_neg ht]
theorem km {t:Nat} {b:Bool}:∀{l:List cr} {st:St},EA t l=true→look st.env t=some (.pv (.bool b))→aW O l st=aW O (l.map (oi t b)) st
 | [],_,_,_=>rfl
 | o::l,st,hn,h=>by
   simp only [EA,Bool.and_eq_true] at hn
   rw [List.map_cons,iT,iT,←zK h]
   cases e:bj O o st with
   | none=>rfl
   | some st'=>exact km hn.2 (lM hn.1 h e)
theorem tu {d:Option Nat} {t:Nat} {b:Bool} {args:List dL} {op:AK} {l:List cr} {env:List (Nat×AV)} {mem:List (Nat×List AV)} {sh:Sh} {aa:al} {c:Bool} (h:look env t=some (.pv (.bool c))) (hn:EA t (⟨d,some (t,b),args,op⟩::l)=true) :
   aW O (⟨d,some (t,b),args,op⟩::l) ⟨env,mem,sh,aa⟩ =
     if c=true then aW O ((⟨d,some (t,b),args,op⟩::l).map (oi t true)) ⟨bN env t (.pv (.bool true)),mem,sh,aa⟩
     else aW O ((⟨d,some (t,b),args,op⟩::l).map (oi t false)) ⟨bN env t (.pv (.bool false)),mem,sh,aa⟩:=by
 cases c with
 | true=>rw [if_pos rfl,lL h];exact km hn h
 | false=>rw [if_neg (by simp),lL h];exact km hn h
theorem ri {d:Option Nat} {t:Nat} {b:Bool} {args:List dL} {op:AK} {l:List cr} {env:List (Nat×AV)} {mem:List (Nat×List AV)} {sh:Sh} {aa:al} (h:look env t=some .un) :
   aW O (⟨d,some (t,b),args,op⟩::l) ⟨env,mem,sh,aa⟩=aW O l ⟨dz env d .un,mem,sh,aa⟩:=by
 rw [iT]
 simp only [bj,a_,h]
 rfl
noncomputable def gd (O:dh) (t:Nat) (ops:List cr) (d:Option Nat) (l:List cr) (env:List (Nat×AV)) (mem:List (Nat×List AV)) (sh:Sh) (aa:al):Option AV→Option St
 | some (.pv (.bool c))=>if EA t ops=true then (if c=true then aW O (ops.map (oi t true)) ⟨bN env t (.pv (.bool true)),mem,sh,aa⟩
     else aW O (ops.map (oi t false)) ⟨bN env t (.pv (.bool false)),mem,sh,aa⟩) else aW O ops ⟨env,mem,sh,aa⟩
 | some .un=>aW O l ⟨dz env d .un,mem,sh,aa⟩
 | _=>aW O ops ⟨env,mem,sh,aa⟩
theorem Cy {d:Option Nat} {t:Nat} {b:Bool} {args:List dL} {op:AK} {l:List cr} {env:List (Nat×AV)} {mem:List (Nat×List AV)} {sh:Sh} {aa:al} :
   aW O (⟨d,some (t,b),args,op⟩::l) ⟨env,mem,sh,aa⟩=gd O t (⟨d,some (t,b),args,op⟩::l) d l env mem sh aa (look env t):=by
 unfold gd
 split
 · rename_i c h
   split
   · rename_i hn;exact tu h hn
   · rfl
 · rename_i h;exact ri h
 · rfl
theorem EV {t:Nat} {ops:List cr} {d:Option Nat} {l:List cr} {env:List (Nat×AV)} {mem:List (Nat×List AV)} {sh:Sh} {aa:al} {c:Bool}:gd O t ops d l env mem sh aa (some (.pv (.bool c))) =
   if EA t ops=true then (if c=true then aW O (ops.map (oi t true)) ⟨bN env t (.pv (.bool true)),mem,sh,aa⟩
     else aW O (ops.map (oi t false)) ⟨bN env t (.pv (.bool false)),mem,sh,aa⟩) else aW O ops ⟨env,mem,sh,aa⟩:=rfl
theorem HL {t:Nat} {ops:List cr} {d:Option Nat} {l:List cr} {env:List (Nat×AV)} {mem:List (Nat×List AV)} {sh:Sh} {aa:al}:gd O t ops d l env mem sh aa (some .un)=aW O l ⟨dz env d .un,mem,sh,aa⟩:=rfl
theorem EW {t:Nat}:EA t []=true:=rfl
theorem Cz {t d:Nat} {g:Option (Nat×Bool)} {args:List dL} {op:AK} {l:List cr}:EA t (⟨some d,g,args,op⟩::l)=(!(decide (d=t)) && EA t l):=by
 simp only [EA]
 congr 1
theorem zL {t:Nat} {b:Bool} {d:Option Nat} {args:List dL} {op:AK}:oi t b ⟨d,none,args,op⟩=⟨d,none,args,op⟩:=rfl
theorem zM {t t':Nat} {b b':Bool} {d:Option Nat} {args:List dL} {op:AK}:oi t b ⟨d,some (t',b'),args,op⟩=if t'=t then (if b'=b then ⟨d,none,args,op⟩ else ⟨d,none,[.c .un],.v .mv⟩) else ⟨d,some (t',b'),args,op⟩:=rfl
theorem tv {d k:Option Nat} {env:List (Nat×AV)} {mem:List (Nat×List AV)} {v:AV} {cs:Option (List AV)} {sh:Sh} {aa:al} :
   Cw d k env mem (some ⟨v,cs,sh,aa⟩)=some ⟨dz env d v,dr mem k cs,sh,aa⟩:=rfl
theorem vD {op:AK} {vals:List AV} {cells:Option (List AV)} {sh:Sh} {aa:al}:Cx O op (some vals) cells sh aa=exec O op vals cells sh aa:=rfl
def CA (sh:Sh) (aa:al):Option AV→Option Out
 | some x=>some ⟨x,none,sh,aa⟩
 | none=>none
theorem zN {sh:Sh} {aa:al} {x:AV}:CA sh aa (some x)=some ⟨x,none,sh,aa⟩:=rfl
variable {vals:List AV} {cells:Option (List AV)} {sh:Sh} {aa:al}
theorem GM {o:ED}:exec O (.v o) vals cells sh aa=CA sh aa (a6 o vals):=by
 show (a6 o vals).map _=_
 cases a6 o vals<;>rfl
theorem fl {key off sz d o:Nat} {ag:Bool} {cs:List AV}:exec O (.cq key off sz ag) [.bg d o] (some cs) sh aa=if d=key∧o=off then CA sh aa (bz ag sz cs off) else none:=by
 show (if d=key∧o=off then (bz ag sz cs off).map _ else none)=_
 cases bz ag sz cs off<;>rfl
theorem fF {key off sz d o:Nat} {v:AV} {cs:List AV}:exec O (.bC key off sz) [.bg d o,v] (some cs) sh aa =
   if d=key∧o=off∧(aE v).length=sz∧(aE v).all aJ=true then if off+sz≤cs.length then some ⟨.un,some (aM cs off (aE v)),sh,aa⟩ else none else none:=rfl
theorem gH {key:Nat} {zero:List PV}:exec O (.alloc key zero) [] none sh aa=some ⟨.bg key 0,some (zero.map a6.zeroCell),sh,aa⟩:=rfl
theorem jz {key sz:Nat} {v:AV}:exec O (.box key sz) [v] none sh aa=if (aE v).length=sz∧(aE v).all aJ=true then some ⟨.bg key 0,some (aE v),sh,aa⟩ else none:=rfl
theorem tw {sz:Nat} {ag:Bool} {cs:List PV}:exec O (.dt sz ag) [.cS cs] cells sh aa=CA sh aa (bQ ag sz cs):=by
 show (bQ ag sz cs).map _=_
 cases bQ ag sz cs<;>rfl
def oj (ag:Bool) (sz off:Nat):Option (Option (List AV))→Option AV
 | some (some cs)=>if cK cs=true then none else bz ag sz cs off
 | _=>none
theorem mz {ag:Bool} {sz off:Nat} {cs:List AV}:oj ag sz off (some (some cs))=if cK cs=true then none else bz ag sz cs off:=rfl
theorem tA {sz b off:Nat} {ag:Bool}:exec O (.dt sz ag) [.aO b off] cells sh aa=CA sh aa (oj ag sz off sh[b]?):=by
 show (match sh[b]? with | some (some cs)=>if cK cs=true then none else (bz ag sz cs off).map _ | _=>none)=_
 split
 · rename_i cs h
   rw [h,mz]
   split
   · rfl
   · cases bz ag sz cs off<;>rfl
 · rename_i h
   unfold oj
   split
   · rename_i cs e;exact absurd e (h cs)
   · rfl
def lf (b off sz:Nat) (vs:List AV) (sh:Sh) (aa:al):Option (Option (List AV))→Option Out
 | some (some cs)=>if cK cs=false∧vs.length=sz∧off+sz≤cs.length∧vs.all bO=true∧vs.all (au (b+1))=true then some ⟨.un,none,sh.set b (some (aM cs off vs)),aa⟩ else none
 | _=>none
theorem iU {b off sz:Nat} {vs cs:List AV}:lf b off sz vs sh aa (some (some cs))=if cK cs=false∧vs.length=sz∧off+sz≤cs.length∧vs.all bO=true∧vs.all (au (b+1))=true then some ⟨.un,none,sh.set b (some (aM cs off vs)),aa⟩ else none:=rfl
theorem eJ {sz b off:Nat} {v:AV}:exec O (.df sz) [.aO b off,v] cells sh aa=lf b off sz (bA v) sh aa sh[b]?:=by
 show (match sh[b]? with | some (some cs)=>_ | _=>none)=_
 split
 · rename_i cs h
   rw [h,iU]
 · rename_i h
   unfold lf
   split
   · rename_i cs e;exact absurd e (h cs)
   · rfl
theorem g_ {sz b off:Nat} {v:AV}:exec O (.iC sz) [.aO b off,v] cells sh aa=lf b off sz (aE v) sh aa sh[b]?:=by
 show (match sh[b]? with | some (some cs)=>_ | _=>none)=_
 split
 · rename_i cs h
   rw [h,iU]
 · rename_i h
   unfold lf
   split
   · rename_i cs e;exact absurd e (h cs)
   · rfl
theorem jM {sz:Nat} {v:AV}:exec O (.kA sz) [v] cells sh aa=if (bA v).length=sz∧(bA v).all bO=true∧(bA v).all (au sh.length)=true then some ⟨.aO sh.length 0,none,sh++[some (bA v)],aa⟩ else none:=rfl
theorem jN {sz:Nat} {v:AV}:exec O (.ph sz) [v] cells sh aa=if (aE v).length=sz∧(aE v).all bO=true∧(aE v).all (au sh.length)=true then some ⟨.aO sh.length 0,none,sh++[some (aE v)],aa⟩ else none:=rfl
theorem hG {zero:List PV}:exec O (.gn zero) [] cells sh aa=some ⟨.aO sh.length 0,none,sh++[some (zero.map a6.zeroCell)],aa⟩:=rfl
theorem iJ {sz bytes:Nat} {ag:Bool} {zero:List PV} {k k':IntKind} {n n':Int}:exec O (.i_ sz bytes ag zero) [.pv (.int k n),.pv (.int k' n')] cells sh aa =
   if n=n'∧0≤n∧n≤9223372036854775807∧n*bytes≤140737488355328∧zero.length=sz then some ⟨.aY sh.length sz n.toNat ag,none,sh++[some ((List.replicate n.toNat (zero.map .pv)).flatten)],aa⟩ else none:=rfl
theorem gJ {key sz bytes:Nat} {zero:List PV} {k k':IntKind} {n n':Int}:exec O (.fW key sz bytes zero) [.pv (.int k n),.pv (.int k' n')] none sh aa =
   if n=n'∧0≤n∧n≤9223372036854775807∧n*bytes≤140737488355328∧zero.length=sz then some ⟨.gR key n.toNat,some ((List.replicate n.toNat (zero.map .pv)).flatten),sh,aa⟩ else none:=rfl
theorem CB {s:Nat}:(AK.ph s).key=none:=rfl
theorem zO {d s b:Nat} {z:List PV}:AK.key (.fW d s b z)=some d:=rfl
theorem vE {live:List Nat} {d n:Nat}:cZ live (.gR d n)=live.contains d:=rfl
def IQ (d sz:Nat) (ag:Bool) (st:St):Option (List AV)→St
 | some cells=>if cells.all bO=true∧cells.all (au (st.sh.length+1))=true then
     { st with env:=qJ d st.sh.length sz cells.length ag st.env (st.env.map (·.1)),mem:=jg d st.mem,sh:=st.sh++[some cells] } else st
 | none=>st
theorem zP {d sz:Nat} {ag:Bool} {env:List (Nat×AV)} {mem:List (Nat×List AV)} {cells:List AV}:IQ d sz ag ⟨env,mem,sh,aa⟩ (some cells) =
   if cells.all bO=true∧cells.all (au (sh.length+1))=true then ⟨qJ d sh.length sz cells.length ag env (env.map (·.1)),jg d mem,sh++[some cells],aa⟩ else ⟨env,mem,sh,aa⟩:=rfl
theorem CC {st:St}:se [] st=st:=rfl
theorem zQ {d sz:Nat} {ag:Bool} {r:List (Nat×Nat×Bool)} {st:St}:se ((d,sz,ag)::r) st=se r (EE d sz ag st):=rfl
theorem CD {d s sz n:Nat} {ag:Bool} {env:List (Nat×AV)}:qJ d s sz n ag env []=[]:=rfl
def IS (t:Nat) (r:List (Nat×AV)):Option AV→List (Nat×AV)
 | some v=>(t,v)::r
 | none=>r
theorem zR {t:Nat} {r:List (Nat×AV)} {v:AV}:IS t r (some v)=(t,v)::r:=rfl
theorem zS {d s sz n d' o:Nat} {ag:Bool}:uY d s sz n ag (.bg d' o)=some (if d'=d then .aO s o else .bg d' o):=rfl
theorem zT {d s sz n d' m:Nat} {ag:Bool}:uY d s sz n ag (.gR d' m)=if d'=d then (if m*sz≤n then some (.aY s sz m ag) else none) else some (.gR d' m):=rfl
theorem EX {d s sz n:Nat} {ag:Bool} {p:PV}:uY d s sz n ag (.pv p)=some (.pv p):=rfl
theorem zU {d s sz n b z m:Nat} {ag g:Bool}:uY d s sz n ag (.aY b z m g)=some (.aY b z m g):=rfl
theorem CE {α:Type} {d:Nat}:jg d ([]:List (Nat×α))=[]:=rfl
theorem zV {α:Type} {d k:Nat} {v:α} {r:List (Nat×α)}:jg d ((k,v)::r)=if k=d then jg d r else (k,v)::jg d r:=rfl
theorem vF {env:List (Nat×AV)}:eA env []=true:=rfl
theorem tB {env:List (Nat×AV)} {a b:Nat} {r:List (Nat×Nat)}:eA env ((a,b)::r)=(apart (look env a) (look env b) && eA env r):=rfl
theorem CF {b o b' o':Nat}:apart (some (.aO b o)) (some (.aO b' o'))=(b != b'):=rfl
def HM (ts:List Nat) (st:St):Option AV→St
 | some (.aY b _ _ _)=>match st.sh[b]? with
   | some (some cells)=>if cK cells=false then { st with env:=j0 b st.sh.length ts st.env,sh:=st.sh.set b none++[some cells] } else st
   | _=>st
 | _=>st
theorem zW {t:Nat} {r:List Nat} {st:St}:yV (t::r) st=HM (t::r) st (look st.env t):=rfl
def HN (ts:List Nat) (b:Nat) (st:St):Option (Option (List AV))→St
 | some (some cells)=>if cK cells=false then { st with env:=j0 b st.sh.length ts st.env,sh:=st.sh.set b none++[some cells] } else st
 | _=>st
theorem zX {ts:List Nat} {st:St} {b z n:Nat} {ag:Bool}:HM ts st (some (.aY b z n ag))=HN ts b st st.sh[b]?:=rfl
theorem zY {ts:List Nat} {b:Nat} {env:List (Nat×AV)} {mem:List (Nat×List AV)} {cells:List AV}:HN ts b ⟨env,mem,sh,aa⟩ (some (some cells)) =
   if cK cells=false then ⟨j0 b sh.length ts env,mem,sh.set b none++[some cells],aa⟩ else ⟨env,mem,sh,aa⟩:=rfl
theorem CG {b b':Nat} {env:List (Nat×AV)}:j0 b b' [] env=env:=rfl
def HO (b b' t:Nat) (r:List Nat) (env:List (Nat×AV)):Option AV→List (Nat×AV)
 | some (.aY s z n ag)=>if s=b then j0 b b' r (bN env t (.aY b' z n ag)) else j0 b b' r env
 | _=>j0 b b' r env
theorem zZ {b b' t:Nat} {r:List Nat} {env:List (Nat×AV)}:j0 b b' (t::r) env=HO b b' t r env (look env t):=rfl
theorem z2 {b b' t s z n:Nat} {ag:Bool} {r:List Nat} {env:List (Nat×AV)}:HO b b' t r env (some (.aY s z n ag))=if s=b then j0 b b' r (bN env t (.aY b' z n ag)) else j0 b b' r env:=rfl
theorem CH {st:St}:gS [] st=st:=rfl
def IT (r:List Nat) (st:St):Option AV→St
 | some (.aY b _ _ _)=>match st.sh[b]? with
   | some (some cells)=>if cK cells=false∧(dq (.agg cells)).contains b=false then
       match cW st.sh cells with
       | some ps=>gS r { st with sh:=(ct st.sh [.agg cells]).set b (some (ps.map .pv)) }
       | none=>gS r st
     else gS r st
   | _=>gS r st
 | _=>gS r st
theorem z3 {t:Nat} {r:List Nat} {st:St}:gS (t::r) st=IT r st (look st.env t):=rfl
def GN (r:List Nat) (b:Nat) (cells:List AV) (st:St):Option (List PV)→St
 | some ps=>gS r { st with sh:=(ct st.sh [.agg cells]).set b (some (ps.map .pv)) }
 | none=>gS r st
def IU (r:List Nat) (b:Nat) (st:St):Option (Option (List AV))→St
 | some (some cells)=>if cK cells=false∧(dq (.agg cells)).contains b=false then GN r b cells st (cW st.sh cells) else gS r st
 | _=>gS r st
theorem z4 {r:List Nat} {b:Nat} {st:St} {cells:List AV}:IU r b st (some (some cells))=if cK cells=false∧(dq (.agg cells)).contains b=false then GN r b cells st (cW st.sh cells) else gS r st:=rfl
theorem z5 {r:List Nat} {b:Nat} {cells:List AV} {ps:List PV} {env:List (Nat×AV)} {mem:List (Nat×List AV)}:GN r b cells ⟨env,mem,sh,aa⟩ (some ps)=gS r ⟨env,mem,(ct sh [.agg cells]).set b (some (ps.map .pv)),aa⟩:=rfl
def IV (aa:al):Option (AV×Sh×al)→Option Out
 | some (v,sh',ts)=>some ⟨v,none,sh',ts⟩
 | none=>none
theorem z6 {v:AV} {sh':Sh} {ts:al}:IV aa (some (v,sh',ts))=some ⟨v,none,sh',ts⟩:=rfl
def GO (ag:Bool) (sz bytes:Nat) (sh:Sh) (aa:al):Option (List PV)→Option (AV×Sh×al)
 | some xs=>if aQ sz xs=true then (if xs.isEmpty=true then some (.cz [],sh,aa) else if xs.length*bytes≤140737488355328 then some (.aY sh.length sz xs.length ag,sh++[some ((xs.flatMap aH).map .pv)],aa) else none) else none
 | none=>none
theorem tC {ag:Bool} {sz bytes:Nat} {xs:List PV}:GO ag sz bytes sh aa (some xs) =
   if aQ sz xs=true then (if xs.isEmpty=true then some (.cz [],sh,aa) else if xs.length*bytes≤140737488355328 then some (.aY sh.length sz xs.length ag,sh++[some ((xs.flatMap aH).map .pv)],aa) else none) else none:=rfl
theorem vG {sz bytes:Nat} {ag:Bool}:(AK.iD sz bytes ag).key=none:=rfl
theorem EY {p:PV} {r:List AV}:cK (.pv p::r)=false:=rfl
theorem CI {l:List PV} {τ:Nat} {r:List AV}:cK (.own l τ::r)=false:=rfl
theorem z7 {b z n:Nat} {ag:Bool} {r:List AV}:cK (.aY b z n ag::r)=false:=rfl
theorem iK:exec O .kB [] cells sh aa=some ⟨.d_ sh.length,none,sh++[some [.cT []]],aa⟩:=rfl
def GP (ok:Bool) (z:PV) (sh:Sh) (aa:al):Option (Option PV)→Option Out
 | some r=>some ⟨fY ok z r,none,sh,aa⟩
 | none=>none
theorem z8 {ok:Bool} {z:PV} {r:Option PV}:GP ok z sh aa (some r)=some ⟨fY ok z r,none,sh,aa⟩:=rfl
theorem rj {z:PV} {r:Option PV}:fY true z r=.lr [.pv (r.getD z),.pv (.bool r.isSome)]:=rfl
theorem pJ {z:PV} {r:Option PV}:fY false z r=.pv (r.getD z):=rfl
def CJ (c:CK) (ok:Bool) (z k:PV) (sh:Sh) (aa:al):Option (Option (List AV))→Option Out
 | some (some [.cT kvs])=>GP ok z sh aa (h_ c kvs k)
 | _=>none
theorem om {c:CK} {ok:Bool} {z k:PV} {kvs:List (PV×PV)}:CJ c ok z k sh aa (some (some [.cT kvs]))=GP ok z sh aa (h_ c kvs k):=rfl
theorem gK {c:CK} {ok:Bool} {z k:PV} {s:Nat}:exec O (.ij c ok z) [.d_ s,.pv k] cells sh aa=CJ c ok z k sh aa sh[s]?:=by
 show (match sh[s]? with | some (some [.cT kvs])=>(h_ c kvs k).map _ | _=>none)=_
 split
 · rename_i kvs h
   rw [h,om]
   cases h_ c kvs k<;>rfl
 · rename_i h
   unfold CJ
   split
   · rename_i kvs e;exact absurd e (h kvs)
   · rfl
def GQ (s:Nat) (sh:Sh) (aa:al):Option (List (PV×PV))→Option Out
 | some kvs=>some ⟨.un,none,sh.set s (some [.cT kvs]),aa⟩
 | none=>none
theorem z9 {s:Nat} {kvs:List (PV×PV)}:GQ s sh aa (some kvs)=some ⟨.un,none,sh.set s (some [.cT kvs]),aa⟩:=rfl
def GR (c:CK) (s:Nat) (k:PV) (sh:Sh) (aa:al):Option (Option (List AV))→Option PV→Option Out
 | some (some [.cT kvs]),some p=>GQ s sh aa (jm c kvs k p)
 | _,_=>none
theorem qj {c:CK} {s:Nat} {k p:PV} {kvs:List (PV×PV)}:GR c s k sh aa (some (some [.cT kvs])) (some p)=GQ s sh aa (jm c kvs k p):=rfl
theorem jO {c:CK} {k:PV} {s:Nat} {v:AV}:exec O (.nf c) [.d_ s,.pv k,v] cells sh aa=GR c s k sh aa sh[s]? (gQ [] v):=by
 show (match sh[s]?,gQ [] v with | some (some [.cT kvs]),some p=>(jm c kvs k p).map _ | _,_=>none)=_
 split
 · rename_i kvs p h1 h2
   rw [h1,h2,qj]
   cases jm c kvs k p<;>rfl
 · rename_i h
   unfold GR
   split
   · rename_i kvs p e1 e2;exact absurd e2 (h kvs p e1)
   · rfl
def GS (neg:Bool):Option Bool→Option AV
 | some b=>some (.pv (.bool (if neg then !b else b)))
 | none=>none
theorem z_ {neg b:Bool}:GS neg (some b)=some (.pv (.bool (if neg then !b else b))):=rfl
def IW (cs:List CK) (neg:Bool):Option PV→Option PV→Option AV
 | some (.agg ps),some (.agg qs)=>GS neg (cX cs ps qs)
 | _,_=>none
theorem Aa {cs:List CK} {neg:Bool} {ps qs:List PV}:IW cs neg (some (.agg ps)) (some (.agg qs))=GS neg (cX cs ps qs):=rfl
def GU (sh:Sh):Option (AV×al)→Option Out
 | some (v,ts)=>some ⟨v,none,sh,ts⟩
 | none=>none
theorem Ac {v:AV} {ts:al}:GU sh (some (v,ts))=some ⟨v,none,sh,ts⟩:=rfl
theorem hH {sz bytes:Nat} {s x:AV}:exec O (.append sz bytes) [s,x] cells sh aa=GU sh (aS sz bytes s x aa):=by
 show (aS sz bytes s x aa).map _=_
 cases aS sz bytes s x aa<;>rfl
theorem kf {sz bytes:Nat} {x:AV}:exec O (.clone sz bytes) [x] cells sh aa=GU sh (aS sz bytes (.cz []) x aa):=by
 show (aS sz bytes (.cz []) x aa).map _=_
 cases aS sz bytes (.cz []) x aa<;>rfl
def yB (sz bytes:Nat) (s:AV) (aa:al):Option (List PV)→Option (AV×al)
 | some xs=>if aQ sz xs=true then
   match s with
   | .cz l=>if xs.isEmpty=true then some (.cz l,aa) else if aQ sz l=true∧(l.length+xs.length)*bytes≤140737488355328 then
       some (.own (l++xs) aa.length,aa++[(l++xs).length]) else none
   | .own l τ=>if aa[τ]?=some l.length∧aQ sz l=true∧(l.length+xs.length)*bytes≤140737488355328 then
       some (.own (l++xs) τ,aa.set τ (l++xs).length) else none
   | _=>none
   else none
 | none=>none
theorem pK {sz bytes:Nat} {s x:AV}:aS sz bytes s x aa=yB sz bytes s aa (bF x):=by
 unfold aS yB
 cases bF x<;>rfl
theorem Ad {sz bytes:Nat} {l xs:List PV}:yB sz bytes (.cz l) aa (some xs)=if aQ sz xs=true then if xs.isEmpty=true then some (.cz l,aa) else if aQ sz l=true∧(l.length+xs.length)*bytes≤140737488355328 then
       some (.own (l++xs) aa.length,aa++[(l++xs).length]) else none else none:=rfl
theorem Ae {sz bytes τ:Nat} {l xs:List PV}:yB sz bytes (.own l τ) aa (some xs)=if aQ sz xs=true then if aa[τ]?=some l.length∧aQ sz l=true∧(l.length+xs.length)*bytes≤140737488355328 then
       some (.own (l++xs) τ,aa.set τ (l++xs).length) else none else none:=rfl
def GV (aa:al):Option (AV×Sh)→Option Out
 | some (v,sh)=>some ⟨v,none,sh,aa⟩
 | none=>none
theorem Af {v:AV} {sh:Sh}:GV aa (some (v,sh))=some ⟨v,none,sh,aa⟩:=rfl
def CL (sz bytes:Nat) (ag:Bool) (s:AV) (sh:Sh) (aa:al):Option (List PV)→Option Out
 | some xs=>if aQ sz xs=true then GV aa (pj sz bytes ag s xs sh aa) else none
 | none=>none
theorem vH {sz bytes:Nat} {ag:Bool} {s:AV} {xs:List PV}:CL sz bytes ag s sh aa (some xs)=if aQ sz xs=true then GV aa (pj sz bytes ag s xs sh aa) else none:=rfl
theorem iM {sz bytes:Nat} {ag:Bool} {s x:AV}:exec O (.dw sz bytes ag) [s,x] cells sh aa=CL sz bytes ag s sh aa (bF x):=by
 simp only [exec,CL]
 cases bF x with
 | none=>rfl
 | some xs=>
   simp only
   split
   · cases pj sz bytes ag s xs sh aa<;>rfl
   · rfl
def GW (sz bytes:Nat) (ag:Bool) (b z n:Nat) (g:Bool) (xs:List PV) (sh:Sh):Option (Option (List AV))→Option (AV×Sh)
 | some (some cells)=>if z=sz∧g=ag∧cK cells=false∧n*sz≤cells.length∧(n+xs.length)*bytes≤140737488355328 then
       if xs.isEmpty=true then some (.aY b sz n ag,sh) else some (.aY sh.length sz (n+xs.length) ag,sh.set b none++[some (cells.take (n*sz)++(xs.flatMap aH).map .pv)])
     else none
 | _=>none
theorem tD {sz bytes:Nat} {ag:Bool} {b z n:Nat} {g:Bool} {xs:List PV} {cells:List AV}:GW sz bytes ag b z n g xs sh (some (some cells))=if z=sz∧g=ag∧cK cells=false∧n*sz≤cells.length∧(n+xs.length)*bytes≤140737488355328 then
       if xs.isEmpty=true then some (.aY b sz n ag,sh) else some (.aY sh.length sz (n+xs.length) ag,sh.set b none++[some (cells.take (n*sz)++(xs.flatMap aH).map .pv)])
     else none:=rfl
theorem CM {sz bytes:Nat} {ag:Bool} {xs:List PV}:pj sz bytes ag (.cz []) xs sh aa=nm sz bytes ag (.cz []) xs sh:=rfl
theorem CN {sz bytes τ:Nat} {ag:Bool} {xs:List PV}:pj sz bytes ag (.own [] τ) xs sh aa=if aa[τ]?=some 0 then nm sz bytes ag (.own [] τ) xs sh else none:=rfl
theorem EZ {sz bytes:Nat} {ag:Bool} {s:AV} {xs:List PV}:nm sz bytes ag s xs sh=if xs.isEmpty=true then some (s,sh) else if xs.length*bytes≤140737488355328 then some (.aY sh.length sz xs.length ag,sh++[some ((xs.flatMap aH).map .pv)]) else none:=rfl
def E_ (r:List Nat) (t:Nat) (st:St) (v:AV):Option PV→St
 | some p=>kc r { st with env:=bN st.env t (.pv p),sh:=ct st.sh [v] }
 | none=>kc r (uX v st)
def CO (d:Nat) (cs:List AV) (st:St):Option (List PV)→St
 | some ps=>{ st with mem:=bN st.mem d (ps.map .pv),sh:=ct st.sh [.agg cs] }
 | none=>st
def CP (d:Nat) (st:St):Option (List AV)→St
 | some cs=>CO d cs st (cW st.sh cs)
 | none=>st
theorem Ag {d:Nat} {st:St}:uX (.bg d 0) st=CP d st (look st.mem d):=by
 simp only [uX]
 cases look st.mem d with
 | none=>rfl
 | some cs=>
   simp only [CP]
   cases cW st.sh cs<;>rfl
def HP (b:Nat) (st:St):Option (Option (List AV))→St
 | some (some cs)=>{ st with sh:=st.sh.set b (some ((cs.take (cs.length / 2)).map j6++cs.drop (cs.length / 2))) }
 | _=>st
theorem vJ {b:Nat} {st:St} {cs:List AV}:HP b st (some (some cs))={ st with sh:=st.sh.set b (some ((cs.take (cs.length / 2)).map j6++cs.drop (cs.length / 2))) }:=rfl
theorem Ah {l:List PV}:j6 (.cz l)=.pv (.aF l):=rfl
theorem CQ {p:PV}:j6 (.pv p)=.pv p:=rfl
theorem vK {d:Nat} {st:St} {cs:List AV}:CP d st (some cs)=CO d cs st (cW st.sh cs):=rfl
theorem vL {d:Nat} {st:St} {cs:List AV} {ps:List PV}:CO d cs st (some ps)={ st with mem:=bN st.mem d (ps.map .pv),sh:=ct st.sh [.agg cs] }:=rfl
def GX (r:List Nat) (t:Nat) (st:St):Option AV→St
 | some v=>E_ r t st v (gQ st.sh v)
 | none=>kc r st
theorem CR {st:St}:kc [] st=st:=rfl
theorem Ai {t:Nat} {r:List Nat} {st:St}:kc (t::r) st=GX r t st (look st.env t):=by
 simp only [kc]
 cases look st.env t with
 | none=>rfl
 | some v=>
   simp only [GX]
   cases gQ st.sh v<;>rfl
theorem Aj {r:List Nat} {t:Nat} {st:St} {v:AV}:GX r t st (some v)=E_ r t st v (gQ st.sh v):=rfl
theorem Ao {r:List Nat} {t:Nat} {st:St} {v:AV} {p:PV}:E_ r t st v (some p)=kc r { st with env:=bN st.env t (.pv p),sh:=ct st.sh [v] }:=rfl
theorem Ap {r:List Nat} {t:Nat} {st:St} {v:AV}:E_ r t st v none=kc r (uX v st):=rfl
def IX (aa:al):Option Sh→Option Out
 | some sh=>some ⟨.lr [],none,sh,aa⟩
 | none=>none
theorem Aq {sh:Sh}:IX aa (some sh)=some ⟨.lr [],none,sh,aa⟩:=rfl
def GY (sz:Nat) (zero:List PV) (sh:Sh) (b off n:Nat):Option (Option (List AV))→Option Sh
 | some (some cells)=>if cK cells=false∧off+n*sz≤cells.length∧zero.length=sz then some (sh.set b (some (aM cells off (List.replicate n (zero.map .pv)).flatten))) else none
 | _=>none
theorem tE {sz b off n:Nat} {zero:List PV} {cells:List AV}:GY sz zero sh b off n (some (some cells))=if cK cells=false∧off+n*sz≤cells.length∧zero.length=sz then some (sh.set b (some (aM cells off (List.replicate n (zero.map .pv)).flatten))) else none:=rfl
def oo (sz:Nat) (sh:Sh) (aa:al) (x:AV):Option (List PV)→Option Out
 | some xs=>CS aa (nj sz sh xs x)
 | none=>none
where CS (aa:al):Option (Nat×Sh)→Option Out
 | some (k,sh')=>some ⟨.pv (.int .i64 (k:Int)),none,sh',aa⟩
 | none=>none
theorem tF {sz:Nat} {x:AV} {xs:List PV}:oo sz sh aa x (some xs)=oo.CS aa (nj sz sh xs x):=rfl
theorem vM {k:Nat} {sh':Sh}:oo.CS aa (some (k,sh'))=some ⟨.pv (.int .i64 (k:Int)),none,sh',aa⟩:=rfl
theorem iL {sz:Nat} {x y:AV}:exec O (.ja sz) [x,y] cells sh aa=oo sz sh aa x (bF y):=by
 simp only [exec,oo]
 cases bF y with
 | none=>rfl
 | some xs=>simp only;cases nj sz sh xs x<;>rfl
def HQ (sz:Nat) (sh:Sh) (xs:List PV) (b z n:Nat):Option (Option (List AV))→Option (Nat×Sh)
 | some (some cells)=>if z=sz∧aQ sz xs=true∧cK cells=false∧n*sz≤cells.length then
       some (min xs.length n,sh.set b (some (aM cells 0 (((xs.take n).flatMap aH).map .pv)))) else none
 | _=>none
theorem vN {sz b z n:Nat} {xs:List PV} {cells:List AV}:HQ sz sh xs b z n (some (some cells))=if z=sz∧aQ sz xs=true∧cK cells=false∧n*sz≤cells.length then
       some (min xs.length n,sh.set b (some (aM cells 0 (((xs.take n).flatMap aH).map .pv)))) else none:=rfl
theorem Au {s:Nat}:AK.key (.ja s)=none:=rfl
def tG (sz bytes:Nat) (sh:Sh) (aa:al) (s e:AV):Option (List PV)→Option Out
 | some xs=>GZ sh aa (sd sz bytes xs s e aa)
 | none=>none
where GZ (sh:Sh) (aa:al):Option PV→Option Out
 | some p=>some ⟨.pv p,none,sh,aa⟩
 | none=>none
theorem vO {sz bytes:Nat} {s e:AV} {xs:List PV}:tG sz bytes sh aa s e (some xs)=tG.GZ sh aa (sd sz bytes xs s e aa):=rfl
theorem Av {p:PV}:tG.GZ sh aa (some p)=some ⟨.pv p,none,sh,aa⟩:=rfl
theorem gg {sz bytes:Nat} {s x e:AV}:exec O (.ek sz bytes) [s,x,e] cells sh aa=tG sz bytes sh aa s e (bF x):=by
 simp only [exec,tG]
 cases bF x with
 | none=>rfl
 | some xs=>simp only;cases sd sz bytes xs s e aa<;>rfl
theorem CT {sz bytes τ σ:Nat} {xs l m:List PV}:sd sz bytes xs (.own l τ) (.own m σ) aa=if τ=σ∧aa[τ]?=some m.length∧m.length=l.length+xs.length∧aQ 1 l=true∧aQ 1 xs=true∧sz=1 ∧
     cR (m.drop l.length) xs=true∧xs.isEmpty=false∧m.length*bytes≤140737488355328 then some (.aF (l++xs)) else none:=rfl
theorem Aw:cR [] []=true:=rfl
theorem vP {a b:List UInt8} {r q:List PV}:cR (.str a::r) (.str b::q)=((a == b) && cR r q):=rfl
theorem tH {s b:Nat}:AK.key (.ek s b)=none:=rfl
theorem vQ {s:Nat} {z:List PV}:AK.key (.gp s z)=none:=rfl
theorem vR {sz b n:Nat} {ag lo hi:Bool} {rest:List AV}:a6 (.uW sz lo hi) (.aY b sz n ag::rest)=kD sz lo hi (.aY b sz n ag::rest):=rfl
theorem CU {l:List PV}:bF (.pv (.aF l))=some l:=rfl
theorem Ax {l:List PV}:bF (.cz l)=some l:=rfl
theorem Ay {l:List PV} {τ:Nat}:bF (.own l τ)=some l:=rfl
theorem vS {sz:Nat}:aQ sz []=true:=rfl
theorem tI {sz:Nat} {p:PV} {r:List PV}:aQ sz (p::r)=((aH p).length == sz):=rfl
def HR (sh:Sh) (aa:al):Option (List PV)→Option Out
 | some rs=>some ⟨nk rs,none,sh,aa⟩
 | none=>none
theorem Az {rs:List PV}:HR sh aa (some rs)=some ⟨nk rs,none,sh,aa⟩:=rfl
def Ge (O:dh) (g:Nat):Option (List PV)→Option (List PV)
 | some cM=>O.p g cM
 | none=>none
theorem oq {g:Nat} {cM:List PV}:Ge O g (some cM)=O.p g cM:=rfl
theorem vT {g:Nat}:exec O (.aN g) vals cells sh aa=HR sh aa (Ge O g (bY [] vals)):=by
 show (match bY [] vals with | some cM=>_ | none=>none)=_
 split
 · rename_i cM h
   rw [h,oq]
   cases O.p g cM<;>rfl
 · rename_i h;rw [h];rfl
def G6 (n:Nat) (ts0:al):Option (List AV×Sh×al)→Option Out
 | some (rs,sh',ts)=>some ⟨kE (rs.map (bL n)),none,ew n sh',ts0++ts⟩
 | none=>none
theorem AA {n:Nat} {ts0:al} {rs:List AV} {sh':Sh} {ts:al}:G6 n ts0 (some (rs,sh',ts))=some ⟨kE (rs.map (bL n)),none,ew n sh',ts0++ts⟩:=rfl
def yC (O:dh) (g n:Nat) (q:List AV×Sh×al×al):Option Out:=G6 n q.2.2.1 (O.i g q.1 q.2.1 q.2.2.2)
theorem CV {g n:Nat} {a:List AV} {s:Sh} {o t:al}:yC O g n (a,s,o,t)=G6 n o (O.i g a s t):=rfl
def qk (O:dh) (g:Nat) (args:List AV) (sh:Sh) (aa:al):Option Out:=
 if args.all a9=true then yC O g aa.length (cf aa args sh) else none
theorem CW {g:Nat} {args:List AV}:qk O g args sh aa=if args.all a9=true then yC O g aa.length (cf aa args sh) else none:=rfl
theorem jI {g:Nat} {own:List Nat}:(cY O g own vals sh aa).map (fun (v,sh',ts)=>(⟨v,none,sh',ts⟩:Out))=qk O g (dc own 0 vals) sh aa:=by
 unfold cY qk yC
 split
 · cases O.i g (cf aa (dc own 0 vals) sh).1 (cf aa (dc own 0 vals) sh).2.1 (cf aa (dc own 0 vals) sh).2.2.2 with
   | none=>rfl
   | some q=>obtain ⟨a,b,c⟩:=q;rfl
 · rfl
theorem vU {g:Nat} {own:List Nat}:exec O (.bJ g own) vals cells sh aa=qk O g (dc own 0 vals) sh aa:=jI
theorem vV {g:Nat} {cap:List AV}:exec O .fC (.fn g cap::vals) cells sh aa=qk O g (dc [] 0 (vals++cap)) sh aa:=jI (vals:=vals++cap)
def I9 (sh:Sh):Option Out→Option Out
 | some o=>if jZ o.sh sh=true then some ⟨o.val,none,sh,o.aa⟩ else none
 | none=>none
theorem CX {v:AV} {c:Option (List AV)} {s:Sh} {t:al}:I9 sh (some ⟨v,c,s,t⟩)=if jZ s sh=true then some ⟨v,none,sh,t⟩ else none:=rfl
theorem tJ {g:Nat} {cap:List AV}:exec O .dN (.fn g cap::vals) cells sh aa=I9 sh (qk O g (dc [] 0 (vals++cap)) sh aa):=by
 rw [←jI]
 simp only [exec]
 cases cY O g [] (vals++cap) sh aa with
 | none=>rfl
 | some q=>obtain ⟨v,s,t⟩:=q;rfl
theorem vW:AK.key .dN=none:=rfl
theorem CY:pn [] []=true:=rfl
theorem AB {a b:AV} {r q:List AV}:pn (a::r) (b::q)=(HD a b && pn r q):=rfl
theorem CZ:jZ [] []=true:=rfl
theorem AD {a b:List AV} {r q:Sh}:jZ (some a::r) (some b::q)=(pn a b && jZ r q):=rfl
def b2sO:Option (List UInt8)→Option AV
 | some s=>some (.pv (.str s))
 | none=>none
theorem b2sO_some {s:List UInt8}:b2sO (some s)=some (.pv (.str s)):=rfl
def HS (sh:Sh) (aa:al):Option (List AV×Sh×al)→Option Out
 | some (rs,[],ts)=>some ⟨kE (rs.map (bL aa.length)),none,sh,aa++ts⟩
 | _=>none
theorem AE {rs:List AV} {ts:al}:HS sh aa (some (rs,[],ts))=some ⟨kE (rs.map (bL aa.length)),none,sh,aa++ts⟩:=rfl
def C0 (O:dh) (g:Nat):Option (List PV)→Option (List AV×Sh×al)
 | some cM=>O.i g (cM.map .pv) [] []
 | none=>none
theorem mA {g:Nat} {cM:List PV}:C0 O g (some cM)=O.i g (cM.map .pv) [] []:=rfl
theorem vX {g:Nat}:exec O (.ik g) vals cells sh aa=HS sh aa (C0 O g (bY [] vals)):=by
 show (match bY [] vals with | some cM=>_ | none=>none)=_
 split
 · rename_i cM h
   rw [h,mA]
   cases O.i g (cM.map .pv) [] [] with
   | none=>rfl
   | some q=>
     obtain ⟨a,b,c⟩:=q
     cases b<;>rfl
 · rename_i h;rw [h];rfl
theorem vY {own:List Nat} {i:Nat}:dc own i []=[]:=rfl
theorem tK {own:List Nat} {i:Nat} {v:AV} {r:List AV}:dc own i (v::r)=(if own.contains i then v else il v)::dc own (i+1) r:=rfl
theorem C1 {p:PV}:il (.pv p)=.pv p:=rfl
theorem AF {l:List PV}:il (.cz l)=.pv (.aF l):=rfl
theorem AG {l:List PV} {τ:Nat}:il (.own l τ)=.pv (.aF l):=rfl
theorem vZ {b o:Nat}:il (.aO b o)=.aO b o:=rfl
theorem C2 {g:Nat} {cap:List AV}:il (.fn g cap)=.fn g cap:=rfl
theorem v5 {b s n:Nat} {ag:Bool}:il (.aY b s n ag)=.aY b s n ag:=rfl
theorem v7 {s:Nat}:il (.d_ s)=(.d_ s):=rfl
def v9 (cs:List AV):Option (List PV)→AV
 | some ps=>.pv (.agg ps)
 | none=>.agg cs
theorem AH {cs:List AV}:il (.agg cs)=v9 cs (cW [] cs):=by
 have h:gQ [] (.agg cs)=(cW [] cs).map .agg:=rfl
 unfold il v9
 rw [h]
 cases cW [] cs<;>rfl
theorem tL {cs:List AV} {ps:List PV}:v9 cs (some ps)=.pv (.agg ps):=rfl
def ql {α:Type}:Option α→Option (List α)→Option (List α)
 | some x,some l=>some (x::l)
 | _,_=>none
theorem v_ {α:Type} {x:α} {l:List α}:ql (some x) (some l)=some (x::l):=rfl
theorem wa {env:List (Nat×AV)}:bc env []=some []:=rfl
theorem tM {env:List (Nat×AV)} {x:dL} {r:List dL}:bc env (x::r)=ql (b_ env x) (bc env r):=by
 simp only [bc]
 cases b_ env x<;>cases bc env r<;>rfl
theorem Fa {env:List (Nat×AV)} {n:Nat}:b_ env (.t n)=look env n:=rfl
theorem Fb {env:List (Nat×AV)} {v:AV}:b_ env (.c v)=some v:=rfl
theorem C3:kC []=some []:=rfl
theorem wb:bY sh []=some []:=rfl
theorem tN {v:AV} {r:List AV}:bY sh (v::r)=ql (gQ sh v) (bY sh r):=by
 simp only [bY]
 cases gQ sh v<;>cases bY sh r<;>rfl
theorem AI:cW sh []=some []:=rfl
theorem wc {v:AV} {r:List AV}:cW sh (v::r)=if aJ v=true then ql (cV sh v) (cW sh r) else none:=by
 simp only [cW]
 split
 · cases cV sh v<;>cases cW sh r<;>rfl
 · rfl
theorem Fe {p:PV}:ly (.pv p)=some p:=rfl
theorem G7 {p:PV}:gQ sh (.pv p)=some p:=rfl
theorem Ff {l:List PV}:gQ sh (.cz l)=some (.aF l):=rfl
theorem Fg {l:List PV} {τ:Nat}:gQ sh (.own l τ)=some (.aF l):=rfl
def HT:Option (List PV)→Option PV
 | some ps=>some (.agg ps)
 | none=>none
theorem AJ {ps:List PV}:HT (some ps)=some (.agg ps):=rfl
theorem Fh {cs:List AV}:gQ sh (.agg cs)=HT (cW sh cs):=by
 simp only [gQ]
 cases cW sh cs<;>rfl
theorem we {p:PV}:cV sh (.pv p)=some p:=rfl
theorem tO {l:List PV}:cV sh (.cz l)=some (.aF l):=rfl
theorem tP {l:List PV} {τ:Nat}:cV sh (.own l τ)=some (.aF l):=rfl
theorem C4 {b o:Nat}:gQ sh (.aO b o)=none:=rfl
def G8 (sz n:Nat) (ag:Bool):Option (Option (List AV))→Option PV
 | some (some cells)=>if cells.length=n*sz then ((kC cells).bind (jl sz ag n)).map .aF
   else if cK cells=false∧n*sz≤cells.length then ((kC (cells.take (n*sz))).bind (jl sz ag n)).map .aF else none
 | _=>none
theorem rk {b sz n:Nat} {ag:Bool}:cV sh (.aY b sz n ag)=G8 sz n ag sh[b]?:=rfl
theorem C5 {b sz n:Nat} {ag:Bool}:gQ sh (.aY b sz n ag)=G8 sz n ag sh[b]?:=rfl
theorem AL {sz n:Nat} {ag:Bool} {cells:List AV}:G8 sz n ag (some (some cells))=if cells.length=n*sz then ((kC cells).bind (jl sz ag n)).map .aF else if cK cells=false∧n*sz≤cells.length then ((kC (cells.take (n*sz))).bind (jl sz ag n)).map .aF else none:=rfl
theorem C6 {r:PV}:nk [r]=.pv r:=rfl
theorem C7 {a b:PV} {r:List PV}:nk (a::b::r)=.lr (.pv a::.pv b::r.map .pv):=rfl
theorem C8 {r:AV}:kE [r]=r:=rfl
theorem C9:kE []=.lr []:=rfl
theorem C_ {a b:AV} {r:List AV}:kE (a::b::r)=.lr (a::b::r):=rfl
theorem C' {xs:List AV}:cf aa xs sh=((aV aa [] xs).1,(bZ (aV aa [] xs).2.1 (aV aa [] xs).2.2 sh).1,(bZ (aV aa [] xs).2.1 (aV aa [] xs).2.2 sh).2.1,(bZ (aV aa [] xs).2.1 (aV aa [] xs).2.2 sh).2.2):=rfl
theorem AM {aB ts:al}:aV aB ts []=([],aB,ts):=rfl
theorem ot {aB ts:al} {v:AV} {r:List AV}:aV aB ts (v::r)=((a8 aB ts v).1::(aV (a8 aB ts v).2.1 (a8 aB ts v).2.2 r).1,(aV (a8 aB ts v).2.1 (a8 aB ts v).2.2 r).2):=rfl
theorem AN {aB ts:al}:bZ aB ts []=([],aB,ts):=rfl
theorem ou {aB ts:al} {r:Sh}:bZ aB ts (none::r)=(none::(bZ aB ts r).1,(bZ aB ts r).2):=rfl
theorem oz {aB ts:al} {cs:List AV} {r:Sh}:bZ aB ts (some cs::r)=(some (aV aB ts cs).1::(bZ (aV aB ts cs).2.1 (aV aB ts cs).2.2 r).1,(bZ (aV aB ts cs).2.1 (aV aB ts cs).2.2 r).2):=rfl
theorem AO {aB ts:al}:cA aB ts []=([],aB,ts):=rfl
theorem wg {aB ts:al} {t:Nat} {v:AV} {r:List (Nat×AV)}:cA aB ts ((t,v)::r)=((t,(a8 aB ts v).1)::(cA (a8 aB ts v).2.1 (a8 aB ts v).2.2 r).1,(cA (a8 aB ts v).2.1 (a8 aB ts v).2.2 r).2):=rfl
theorem AQ {aB ts:al}:dP aB ts []=([],aB,ts):=rfl
theorem wh {aB ts:al} {t:Nat} {v:List AV} {r:List (Nat×List AV)}:dP aB ts ((t,v)::r)=((t,(aV aB ts v).1)::(dP (aV aB ts v).2.1 (aV aB ts v).2.2 r).1,(dP (aV aB ts v).2.1 (aV aB ts v).2.2 r).2):=rfl
theorem AR {aB ts:al} {l:List PV} {τ:Nat}:a8 aB ts (.own l τ)=if aB[τ]?=some l.length then (.own l ts.length,aB.set τ (l.length+1),ts++[l.length]) else (.pv (.aF l),aB,ts):=rfl
theorem AS {aB ts:al} {l:List PV}:a8 aB ts (.cz l)=(.own l ts.length,aB,ts++[l.length]):=rfl
theorem tQ {aB ts:al} {p:PV}:a8 aB ts (.pv p)=(.pv p,aB,ts):=rfl
def wi (aB ts:al) (p:List AV):Bool→AV×al×al
 | true=>(.agg p,aB,ts)
 | false=>(.agg (bR aB ts p).1,(bR aB ts p).2.1,(bR aB ts p).2.2)
theorem AT {aB ts:al} {p:List AV}:a8 aB ts (.agg p)=wi aB ts p (bl.ee p):=by
 simp only [a8]
 cases bl.ee p<;>rfl
theorem tR {aB ts:al} {p:List AV}:wi aB ts p true=(.agg p,aB,ts):=rfl
theorem rm {aB ts:al} {p:List AV}:wi aB ts p false=(.agg (bR aB ts p).1,(bR aB ts p).2.1,(bR aB ts p).2.2):=rfl
theorem wj {aB ts:al}:bR aB ts []=([],aB,ts):=rfl
theorem tS {aB ts:al} {v:AV} {r:List AV}:bR aB ts (v::r)=((di aB ts v).1::(bR (di aB ts v).2.1 (di aB ts v).2.2 r).1,(bR (di aB ts v).2.1 (di aB ts v).2.2 r).2):=rfl
theorem AU {aB ts:al} {l:List PV} {τ:Nat}:di aB ts (.own l τ)=if aB[τ]?=some l.length then (.own l ts.length,aB.set τ (l.length+1),ts++[l.length]) else (.pv (.aF l),aB,ts):=rfl
theorem Da {aB ts:al} {p:PV}:di aB ts (.pv p)=(.pv p,aB,ts):=rfl
theorem wk {aB ts:al} {a b c:Nat} {d:Bool}:di aB ts (.aY a b c d)=(.aY a b c d,aB,ts):=rfl
theorem wm {aB ts:al} {a b:Nat}:a8 aB ts (.bg a b)=(.bg a b,aB,ts):=rfl
theorem wo {aB ts:al} {a b:Nat}:a8 aB ts (.aO a b)=(.aO a b,aB,ts):=rfl
theorem wq {aB ts:al} {a b c:Nat} {d:Bool}:a8 aB ts (.aY a b c d)=(.aY a b c d,aB,ts):=rfl
theorem Db {aB ts:al} {a:Nat} {c:List AV}:a8 aB ts (.fn a c)=(.fn a c,aB,ts):=rfl
theorem wt {aB ts:al}:a8 aB ts .eN=(.eN,aB,ts):=rfl
theorem wu {s:Nat} {aB ts:al}:a8 aB ts (.d_ s)=((.d_ s),aB,ts):=rfl
theorem wv {s:List (PV×PV)} {aB ts:al}:a8 aB ts (.cT s)=((.cT s),aB,ts):=rfl
theorem Fi {env:List (Nat×AV)} {mem:List (Nat×List AV)}:norm ⟨env,mem,sh,aa⟩ =
   { env:=(cA aa [] env).1,
     mem:=(dP (cA aa [] env).2.1 (cA aa [] env).2.2 mem).1,
     sh:=(bZ (dP (cA aa [] env).2.1 (cA aa [] env).2.2 mem).2.1 (dP (cA aa [] env).2.1 (cA aa [] env).2.2 mem).2.2 sh).1,
     aa:=(bZ (dP (cA aa [] env).2.1 (cA aa [] env).2.2 mem).2.1 (dP (cA aa [] env).2.1 (cA aa [] env).2.2 mem).2.2 sh).2.2 }:=rfl
theorem tT {live:List Nat} {env:List (Nat×AV)} {mem:List (Nat×List AV)}:restrict live ⟨env,mem,sh,aa⟩=⟨aX live env live,bf mem live,sh,aa⟩:=rfl
def Dc (live:List Nat) (t:Nat) (rest:List (Nat×AV)):Option AV→List (Nat×AV)
 | some v=>if cZ live v=true then (t,v)::rest else rest
 | none=>rest
theorem wx {live:List Nat} {t:Nat} {rest:List (Nat×AV)} {v:AV}:Dc live t rest (some v)=if cZ live v=true then (t,v)::rest else rest:=rfl
theorem wy {live:List Nat} {t:Nat} {rest:List (Nat×AV)}:Dc live t rest none=rest:=rfl
theorem mQ {live:List Nat} {env:List (Nat×AV)}:aX live env []=[]:=rfl
theorem lN {live:List Nat} {env:List (Nat×AV)} {t:Nat} {r:List Nat}:aX live env (t::r)=Dc live t (aX live env r) (look env t):=by
 show (match look env t with | some v=>_ | none=>_)=_
 cases look env t<;>rfl
def Dd (t:Nat) (rest:List (Nat×List AV)):Option (List AV)→List (Nat×List AV)
 | some v=>(t,v)::rest
 | none=>rest
theorem wz {t:Nat} {rest:List (Nat×List AV)} {v:List AV}:Dd t rest (some v)=(t,v)::rest:=rfl
theorem wA {t:Nat} {rest:List (Nat×List AV)}:Dd t rest none=rest:=rfl
theorem mR {mem:List (Nat×List AV)}:bf mem []=[]:=rfl
theorem lO {mem:List (Nat×List AV)} {t:Nat} {r:List Nat}:bf mem (t::r)=Dd t (bf mem r) (look mem t):=by
 show (match look mem t with | some v=>_ | none=>_)=_
 cases look mem t<;>rfl
theorem wB {live:List Nat} {d o:Nat}:cZ live (.bg d o)=live.contains d:=rfl
theorem AW {live:List Nat} {l:List PV} {τ:Nat}:cZ live (.own l τ)=true:=rfl
theorem De {live:List Nat} {p:PV}:cZ live (.pv p)=true:=rfl
theorem AX {live:List Nat} {l:List PV}:cZ live (.cz l)=true:=rfl
theorem wC:ep []=true:=rfl
theorem tU {v:AV} {r:List AV}:ep (v::r)=(gT v && ep r):=rfl
theorem Df {p:PV}:gT (.pv p)=true:=rfl
theorem AY {l:List PV}:gT (.cz l)=true:=rfl
theorem wD {live:List Nat} {a b:Nat}:cZ live (.aO a b)=true:=rfl
theorem wE {live:List Nat} {a b c:Nat} {d:Bool}:cZ live (.aY a b c d)=true:=rfl
theorem Dg {live:List Nat} {a:Nat} {c:List AV}:cZ live (.fn a c)=bl.ee c:=rfl
theorem wF {live:List Nat}:cZ live .eN=true:=rfl
theorem wG {s:Nat} {live:List Nat}:cZ live (.d_ s)=true:=rfl
theorem look_nil {α:Type} {t:Nat}:look ([]:List (Nat×α)) t=none:=rfl
theorem AZ {α:Type} {k t:Nat} {v:α} {r:List (Nat×α)}:look ((k,v)::r) t=if k=t then some v else look r t:=rfl
theorem Dh {α:Type} {t:Nat} {v:α}:bN ([]:List (Nat×α)) t v=[(t,v)]:=rfl
theorem A0 {α:Type} {k t:Nat} {v u:α} {r:List (Nat×α)}:bN ((k,v)::r) t u=if k=t then (k,u)::r else (k,v)::bN r t u:=rfl
theorem A1 {env:List (Nat×AV)} {d:Nat} {v:AV}:dz env (some d) v=bN env d v:=rfl
theorem A3 {env:List (Nat×AV)} {v:AV}:dz env none v=env:=rfl
theorem A4 {mem:List (Nat×List AV)} {k:Nat} {cs:List AV}:dr mem (some k) (some cs)=bN mem k cs:=rfl
theorem cG {mem:List (Nat×List AV)} {o:Option (List AV)}:dr mem none o=mem:=rfl
theorem wH {mem:List (Nat×List AV)} {k:Nat}:dr mem (some k) none=mem:=rfl
theorem rp {i:Nat}:bt i []=[]:=rfl
theorem pL {i:Nat} {v:AV} {r:List AV}:bt i (v::r)=(i,v)::bt (i+1) r:=rfl
theorem wI {cs:List AV}:aE (.agg cs)=cs:=rfl
theorem tV {cs:List PV}:aE (.pv (.agg cs))=cs.map .pv:=rfl
theorem tW {b:Bool}:aE (.pv (.bool b))=[.pv (.bool b)]:=rfl
theorem wJ {k:IntKind} {n:Int}:aE (.pv (.int k n))=[.pv (.int k n)]:=rfl
theorem wK {s:List UInt8}:aE (.pv (.str s))=[.pv (.str s)]:=rfl
theorem wL {l:List PV}:aE (.pv (.aF l))=[.pv (.aF l)]:=rfl
theorem wM {l:List PV}:aE (.cz l)=[.cz l]:=rfl
theorem wN {l:List PV} {τ:Nat}:aE (.own l τ)=[.own l τ]:=rfl
theorem tX {a b c:Nat} {d:Bool}:aE (.aY a b c d)=[.aY a b c d]:=rfl
theorem wO {cs:List PV}:aH (.agg cs)=cs:=rfl
theorem tY {b:Bool}:aH (.bool b)=[.bool b]:=rfl
theorem wP {k:IntKind} {n:Int}:aH (.int k n)=[.int k n]:=rfl
theorem wQ {s:List UInt8}:aH (.str s)=[.str s]:=rfl
theorem wR {l:List PV}:aH (.aF l)=[.aF l]:=rfl
theorem wS {b:Bool}:aJ (.pv (.bool b))=true:=rfl
theorem A5 {k:IntKind} {n:Int}:aJ (.pv (.int k n))=true:=rfl
theorem A6 {s:List UInt8}:aJ (.pv (.str s))=true:=rfl
theorem A7 {l:List PV}:aJ (.pv (.aF l))=true:=rfl
theorem A8 {l:List PV}:aJ (.cz l)=true:=rfl
theorem A9 {l:List PV} {τ:Nat}:aJ (.own l τ)=true:=rfl
theorem wT {a b c:Nat} {d:Bool}:aJ (.aY a b c d)=true:=rfl
theorem Di {v:AV}:bO v=aJ v:=rfl
theorem wU {a b:Nat}:bm (.aO a b)=true:=rfl
theorem A_:bm.gu []=true:=rfl
theorem wV {v:AV} {r:List AV}:bm.gu (v::r)=(bm v && bm.gu r):=rfl
theorem A' {l:List PV} {τ:Nat}:a9 (.own l τ)=true:=rfl
theorem Dj {p:PV}:a9 (.pv p)=true:=rfl
theorem Ba {l:List PV}:a9 (.cz l)=true:=rfl
theorem wW {a b:Nat}:a9 (.aO a b)=true:=rfl
theorem wX {a b c:Nat} {d:Bool}:a9 (.aY a b c d)=true:=rfl
theorem wY:a9 .eN=true:=rfl
theorem wZ {s:Nat}:a9 (.d_ s)=true:=rfl
theorem Dk {a:Nat} {c:List AV}:a9 (.fn a c)=bm.gu c:=rfl
theorem Bb {c:List AV}:a9 (.agg c)=dO c:=rfl
theorem w0:dO []=true:=rfl
theorem tZ {v:AV} {r:List AV}:dO (v::r)=(im v && dO r):=rfl
theorem Bc {l:List PV} {τ:Nat}:im (.own l τ)=true:=rfl
theorem Dl {p:PV}:im (.pv p)=true:=rfl
theorem Bd {l:List PV}:im (.cz l)=true:=rfl
theorem w9 {a b c:Nat} {d:Bool}:im (.aY a b c d)=true:=rfl
theorem Be:bl.ee []=true:=rfl
theorem w_ {v:AV} {r:List AV}:bl.ee (v::r)=(bl v && bl.ee r):=rfl
theorem Dm {p:PV}:bl (.pv p)=true:=rfl
theorem Bf {l:List PV}:bl (.cz l)=true:=rfl
theorem Bg {l:List PV} {τ:Nat}:bl (.own l τ)=false:=rfl
theorem xa {a b:Nat}:bl (.aO a b)=true:=rfl
theorem xd {a b c:Nat} {d:Bool}:bl (.aY a b c d)=true:=rfl
theorem Bh {n:Nat} {p:PV}:au n (.pv p)=true:=rfl
theorem xe {n:Nat} {l:List PV}:au n (.cz l)=true:=rfl
theorem xf {n:Nat} {l:List PV} {τ:Nat}:au n (.own l τ)=true:=rfl
theorem t4 {n:Nat}:au n .eN=true:=rfl
theorem t5 {n a b:Nat}:au n (.aO a b)=decide (a<n):=rfl
theorem t6 {n a b c:Nat} {d:Bool}:au n (.aY a b c d)=decide (a<n):=rfl
theorem Bi {n a:Nat} {c:List AV}:au n (.fn a c)=au.bK n c:=rfl
theorem xg {n:Nat} {c:List AV}:au n (.agg c)=au.bK n c:=rfl
theorem t8 {n:Nat}:au.bK n []=true:=rfl
theorem rq {n:Nat} {v:AV} {r:List AV}:au.bK n (v::r)=(au n v && au.bK n r):=rfl
theorem xh {n τ:Nat} {l:List PV}:bL n (.own l τ)=.own l (τ+n):=rfl
theorem qm {n:Nat} {p:PV}:bL n (.pv p)=.pv p:=rfl
def ru (n:Nat) (p:List AV):Bool→AV
 | true=>.agg p
 | false=>.agg (p.map (fK n))
theorem xi {n:Nat} {p:List AV}:bL n (.agg p)=ru n p (bl.ee p):=by
 simp only [bL]
 cases bl.ee p<;>rfl
theorem rA {n:Nat} {p:List AV}:ru n p true=.agg p:=rfl
theorem pM {n:Nat} {p:List AV}:ru n p false=.agg (p.map (fK n)):=rfl
theorem xj {n τ:Nat} {l:List PV}:fK n (.own l τ)=.own l (τ+n):=rfl
theorem Bj {n:Nat} {p:PV}:fK n (.pv p)=.pv p:=rfl
theorem t9 {n a b c:Nat} {d:Bool}:fK n (.aY a b c d)=.aY a b c d:=rfl
theorem t_ {n a b:Nat}:bL n (.aO a b)=.aO a b:=rfl
theorem Bk {n a:Nat} {b:List AV}:bL n (.fn a b)=.fn a b:=rfl
theorem ua {n a b c:Nat} {d:Bool}:bL n (.aY a b c d)=.aY a b c d:=rfl
theorem ub {n:Nat}:bL n .eN=.eN:=rfl
theorem uc {s:List (PV×PV)} {n:Nat}:bL n (.cT s)=(.cT s):=rfl
theorem xk {n:Nat}:ew n []=[]:=rfl
theorem mB {n:Nat} {r:Sh}:ew n (none::r)=none::ew n r:=rfl
theorem mC {n:Nat} {cs:List AV} {r:Sh}:ew n (some cs::r)=some (cs.map (bL n))::ew n r:=rfl
theorem pN {b:Bool}:a6.zeroCell (.bool b)=.pv (.bool b):=rfl
theorem rB {k:IntKind} {n:Int}:a6.zeroCell (.int k n)=.pv (.int k n):=rfl
theorem rC {s:List UInt8}:a6.zeroCell (.str s)=.pv (.str s):=rfl
theorem rD:a6.zeroCell (.aF [])=.cz []:=rfl
theorem ud {l:List PV} {τ:Nat}:bA (.own l τ)=[.own l τ]:=rfl
theorem xm {p:PV}:bA (.pv p)=aE (.pv p):=rfl
theorem rE {a b c:Nat} {d:Bool}:bA (.aY a b c d)=[.aY a b c d]:=rfl
def yD (cs:List AV):Option (List PV)→List AV
 | some ps=>ps.map .pv
 | none=>cs
theorem ue {cs:List AV}:bA (.agg cs)=yD cs (cW [] cs):=by
 show (match gQ [] (.agg cs) with | some p=>aE (.pv p) | none=>aE (.agg cs))=_
 have h:gQ [] (.agg cs)=(cW [] cs).map .agg:=rfl
 unfold yD
 rw [h]
 cases cW [] cs<;>rfl
theorem xn {cs:List AV} {ps:List PV}:yD cs (some ps)=ps.map .pv:=rfl
theorem xo {cs:List AV}:yD cs none=cs:=rfl
theorem HU {o:ED}:AK.key (.v o)=none:=rfl
theorem Bl {k o s:Nat} {a:Bool}:AK.key (.cq k o s a)=some k:=rfl
theorem xp {k o s:Nat}:AK.key (.bC k o s)=some k:=rfl
theorem Bm {k:Nat} {z:List PV}:AK.key (.alloc k z)=some k:=rfl
theorem Fj {k s:Nat}:AK.key (.box k s)=some k:=rfl
theorem Bn {s:Nat} {a:Bool}:AK.key (.dt s a)=none:=rfl
theorem xq {s:Nat}:AK.key (.df s)=none:=rfl
theorem Dn {s:Nat}:AK.key (.kA s)=none:=rfl
theorem xt {s:List PV}:AK.key (.gn s)=none:=rfl
theorem Bo {s b:Nat} {a:Bool} {z:List PV}:AK.key (.i_ s b a z)=none:=rfl
theorem uf {s b:Nat} {ag:Bool}:AK.key (.dw s b ag)=none:=rfl
theorem xw {s b:Nat}:AK.key (.append s b)=none:=rfl
theorem Bp {g:Nat}:AK.key (.aN g)=none:=rfl
theorem xx {g:Nat}:AK.key (.gq g)=none:=rfl
theorem Bq {g:Nat}:AK.key (.ik g)=none:=rfl
theorem Bs {g:Nat} {o:List Nat}:AK.key (.bJ g o)=none:=rfl
theorem Bt:AK.kB.key=none:=rfl
theorem Bu {c:CK} {ok:Bool} {z:PV}:(AK.ij c ok z).key=none:=rfl
theorem Dp {c:CK}:(AK.nf c).key=none:=rfl
theorem Bv {sz bytes:Nat}:(AK.clone sz bytes).key=none:=rfl
theorem Bw:AK.key .fC=none:=rfl
theorem bind_none {f:Nat→Option (List AV)}:(none:Option Nat).bind f=none:=rfl
theorem bind_some {f:Nat→Option (List AV)} {n:Nat}:(some n).bind f=f n:=rfl
theorem xy {sz off:Nat} {cs:List AV}:bz true sz cs off=if off+sz≤cs.length then some (.agg ((cs.drop off).take sz)) else none:=rfl
theorem ug {off:Nat} {cs:List AV}:bz false 1 cs off=if off+1≤cs.length then cs[off]? else none:=rfl
theorem uh {sz:Nat} {cs:List PV}:bQ true sz cs=if sz≤cs.length then some (.pv (.agg (cs.take sz))) else none:=rfl
theorem rF {c:PV} {cs:List PV}:bQ false 1 (c::cs)=some (.pv c):=by simp [bQ]
theorem ui {cs vs:List AV} {off:Nat}:aM cs off vs=cs.take off++vs++cs.drop (off+vs.length):=rfl
theorem G9 {x:AV}:a6 .mv [x]=some x:=rfl
theorem Dq {c:Bool} {a b:AV}:a6 .pick [.pv (.bool c),a,b]=if c=true then some a else some b:=by cases c<;>rfl
theorem Fk {i:Nat} {vs:List AV}:a6 (.ext i) [.lr vs]=vs[i]?:=rfl
theorem xz {off sz:Nat} {ag:Bool} {cs:List PV}:a6 (.field off sz ag) [.pv (.agg cs)]=bQ ag sz (cs.drop off):=rfl
theorem xA {off d o:Nat}:a6 (.fw off) [.bg d o]=some (.bg d (o+off)):=rfl
theorem xB {off d o:Nat}:a6 (.fw off) [.aO d o]=some (.aO d (o+off)):=rfl
theorem xC {off:Nat} {cs:List PV}:a6 (.fw off) [.cS cs]=some (.cS (cs.drop off)):=rfl
def xD (sz:Nat):Option PV→Option AV
 | some el=>if (aH el).length=sz then some (.cS (aH el)) else none
 | none=>none
theorem uj {sz:Nat} {el:PV}:xD sz (some el)=if (aH el).length=sz then some (.cS (aH el)) else none:=rfl
theorem Bx {sz:Nat} {l:List PV} {k:IntKind} {i:Int}:a6 (.e8 sz) [.pv (.aF l),.pv (.int k i)]=if i<0 then none else xD sz l[i.toNat]?:=by
 show (if i<0 then none else _)=_
 split
 · rfl
 · show (match l[i.toNat]? with | some el=>_ | none=>_)=_
   cases l[i.toNat]?<;>rfl
theorem xE {sz τ:Nat} {l:List PV} {k:IntKind} {i:Int}:a6 (.e8 sz) [.own l τ,.pv (.int k i)]=if i<0 then none else xD sz l[i.toNat]?:=by
 show (if i<0 then none else _)=_
 split
 · rfl
 · show (match l[i.toNat]? with | some el=>_ | none=>_)=_
   cases l[i.toNat]?<;>rfl
theorem xF {sz b sz' n:Nat} {ag:Bool} {k:IntKind} {i:Int}:a6 (.e8 sz) [.aY b sz' n ag,.pv (.int k i)]=if i<0 then none else if sz=sz'∧i.toNat<n then some (.aO b (i.toNat*sz)) else none:=rfl
def Gf:Option UInt8→Option AV
 | some b=>some (.pv (.int .u8 b.toNat))
 | none=>none
theorem xG {b:UInt8}:Gf (some b)=some (.pv (.int .u8 b.toNat)):=rfl
theorem By {s:List UInt8} {k:IntKind} {i:Int}:a6 .index [.pv (.str s),.pv (.int k i)]=if i<0 then none else Gf s[i.toNat]?:=by
 show (if i<0 then none else _)=_
 cases s[i.toNat]?<;>rfl
def HV:Option (List AV)→Option AV
 | some cs=>some (.agg cs)
 | none=>none
theorem Bz {cs:List AV}:HV (some cs)=some (.agg cs):=rfl
theorem BA {zero:List PV} {places:List (Nat×Nat)}:a6 (.build zero places) vals=HV (jb (zero.map a6.zeroCell) places vals):=by
 show (jb _ _ _).map _=_
 cases jb (zero.map a6.zeroCell) places vals<;>rfl
theorem BB {cs:List AV}:jb cs [] []=some cs:=rfl
theorem xH {cs:List AV} {off sz:Nat} {ps:List (Nat×Nat)} {v:AV} {vs:List AV}:jb cs ((off,sz)::ps) (v::vs) =
   if (aE v).length=sz∧off+sz≤cs.length∧(aE v).all aJ=true then jb (aM cs off (aE v)) ps vs else none:=rfl
def HW (sz:Nat):Option (List PV)→Option AV
 | some els=>if els.all (fun e=>(aH e).length == sz) then some (.cz els) else none
 | none=>none
theorem BC {sz:Nat} {els:List PV}:HW sz (some els)=if els.all (fun e=>(aH e).length == sz) then some (.cz els) else none:=rfl
theorem xI {sz:Nat}:a6 (.cJ sz) vals=HW sz (bY [] vals):=by
 show (bY [] vals).bind _=_
 cases bY [] vals<;>rfl
theorem BD {sz:Nat} {ag:Bool} {cs:List PV}:a6 (.e9 sz ag) [.cS cs]=bQ ag sz cs:=rfl
theorem Fl {l:List PV}:a6 .len [.pv (.aF l)]=some (.pv (.int .i64 l.length)):=rfl
theorem Dr {l:List PV}:a6 .len [.cz l]=some (.pv (.int .i64 l.length)):=rfl
theorem Du {l:List PV} {τ:Nat}:a6 .len [.own l τ]=some (.pv (.int .i64 l.length)):=rfl
theorem Dv {a b n:Nat} {d:Bool}:a6 .len [.aY a b n d]=some (.pv (.int .i64 n)):=rfl
theorem Dw {s:List UInt8}:a6 .uV [.pv (.str s)]=some (.pv (.int .i64 s.length)):=rfl
theorem Dx {a b:Nat}:a6 .lu [.aO a b]=some (.aO a b):=rfl
theorem G_ {k k':IntKind} {x y:Int}:a6 .mn [.pv (.int k x),.pv (.int k' y)]=if k=k' then some (.pv (.int k (if y<x then y else x))) else none:=rfl
theorem Ha {k k':IntKind} {x y:Int}:a6 .mx [.pv (.int k x),.pv (.int k' y)]=if k=k' then some (.pv (.int k (if y > x then y else x))) else none:=rfl
theorem Dy {g:Nat}:a6 (.r9 g) vals=some (.fn g vals):=by cases vals<;>rfl
theorem Dz {k k':IntKind} {n:Int}:a6 (.conv k) [.pv (.int k' n)]=some (.pv (.int k (k.wrap n))):=rfl
theorem Fm {b:Bool}:a6 (.un .not) [.pv (.bool b)]=some (.pv (.bool !b)):=rfl
theorem Fo {k:IntKind} {n:Int}:a6 (.un .neg) [.pv (.int k n)]=some (.pv (.int k (k.wrap (0-n)))):=rfl
theorem Fp {a b:Bool}:a6 (.beq false) [.pv (.bool a),.pv (.bool b)]=some (.pv (.bool (a == b))):=rfl
theorem Fq {a b:Bool}:a6 (.beq true) [.pv (.bool a),.pv (.bool b)]=some (.pv (.bool !(a == b))):=rfl
theorem Fs {k:IntKind} {a b:Int}:a6 (.bin .add) [.pv (.int k a),.pv (.int k b)]=some (.pv (.int k (k.wrap (a+b)))):=by simp [a6,bP]
theorem Ft {k:IntKind} {a b:Int}:a6 (.bin .sub) [.pv (.int k a),.pv (.int k b)]=some (.pv (.int k (k.wrap (a-b)))):=by simp [a6,bP]
theorem Fu {k:IntKind} {a b:Int}:a6 (.bin .rem) [.pv (.int k a),.pv (.int k b)]=if b=0 then none else some (.pv (.int k (a.tmod b))):=by simp [a6,bP]
theorem Fv {k:IntKind} {a b:Int}:a6 (.bin .eql) [.pv (.int k a),.pv (.int k b)]=some (.pv (.bool (a == b))):=by simp [a6,bP]
theorem Fw {k:IntKind} {a b:Int}:a6 (.bin .neq) [.pv (.int k a),.pv (.int k b)]=some (.pv (.bool (a != b))):=by simp [a6,bP]
theorem Fx {k:IntKind} {a b:Int}:a6 (.bin .lss) [.pv (.int k a),.pv (.int k b)]=some (.pv (.bool (decide (a<b)))):=by simp [a6,bP]
theorem Fy {k:IntKind} {a b:Int}:a6 (.bin .leq) [.pv (.int k a),.pv (.int k b)]=some (.pv (.bool (decide (a≤b)))):=by simp [a6,bP]
theorem Fz {k:IntKind} {a b:Int}:a6 (.bin .gtr) [.pv (.int k a),.pv (.int k b)]=some (.pv (.bool (decide (a > b)))):=by simp [a6,bP]
theorem FA {k:IntKind} {a b:Int}:a6 (.bin .geq) [.pv (.int k a),.pv (.int k b)]=some (.pv (.bool (decide (a≥b)))):=by simp [a6,bP]
theorem FB {k:IntKind} {a b:Int}:a6 (.bin .and) [.pv (.int k a),.pv (.int k b)]=some (.pv (.int k (k.wrap (BitVec.ofInt k.bits a &&& BitVec.ofInt k.bits b).toNat))):=by simp [a6,bP]
theorem FC {k k':IntKind} {a b:Int}:a6 (.bin .shr) [.pv (.int k a),.pv (.int k' b)]=if b<0 then none else some (.pv (.int k (a.fdiv (2 ^ (min b.toNat k.bits))))):=by simp [a6,bP]
theorem FD {a b:List UInt8}:a6 (.bin .add) [.pv (.str a),.pv (.str b)]=if a.length+b.length≤9223372036854775807 then some (.pv (.str (a++b))) else none:=rfl
theorem DA {a b:List UInt8}:a6 (.bin .eql) [.pv (.str a),.pv (.str b)]=some (.pv (.bool (a == b))):=rfl
theorem DB {a b:List UInt8}:a6 (.bin .neq) [.pv (.str a),.pv (.str b)]=some (.pv (.bool (!(a == b)))):=rfl
theorem DC {a b:List UInt8}:a6 (.bin .lss) [.pv (.str a),.pv (.str b)]=some (.pv (.bool (bP.de a b))):=rfl
theorem DD {a b:List UInt8}:a6 (.bin .gtr) [.pv (.str a),.pv (.str b)]=some (.pv (.bool (!(bP.de a b || a == b)))):=rfl
theorem BE {sz:Nat} {lo hi mx:Bool} {x:AV} {rest:List AV}:a6 (.slice false sz lo hi mx) (x::rest)=iE false sz lo hi mx (x::rest):=rfl
theorem xJ {sz:Nat} {lo hi mx:Bool} {x:AV} {rest:List AV}:a6 (.slice true sz lo hi mx) (x::rest)=iE true sz lo hi mx (x::rest):=rfl
def kn (aD ks:Bool) (sh0 sh:Sh) (aa:al):Option (List AV)→Option (List AV×Sh×al)
 | some vs=>if (bG aD ks sh vs).all a9=true then
     some ((cf aa (bG aD ks sh vs) (if (bG aD ks sh vs).all (au sh0.length)=true then (dH aD ks sh vs).take sh0.length else dH aD ks sh vs)).1,
       (cf aa (bG aD ks sh vs) (if (bG aD ks sh vs).all (au sh0.length)=true then (dH aD ks sh vs).take sh0.length else dH aD ks sh vs)).2.1,
       (cf aa (bG aD ks sh vs) (if (bG aD ks sh vs).all (au sh0.length)=true then (dH aD ks sh vs).take sh0.length else dH aD ks sh vs)).2.2.2) else none
 | none=>none
theorem uk {aD ks:Bool} {sh0:Sh} {vs:List AV}:kn aD ks sh0 sh aa (some vs)=if (bG aD ks sh vs).all a9=true then
     some ((cf aa (bG aD ks sh vs) (if (bG aD ks sh vs).all (au sh0.length)=true then (dH aD ks sh vs).take sh0.length else dH aD ks sh vs)).1,
       (cf aa (bG aD ks sh vs) (if (bG aD ks sh vs).all (au sh0.length)=true then (dH aD ks sh vs).take sh0.length else dH aD ks sh vs)).2.1,
       (cf aa (bG aD ks sh vs) (if (bG aD ks sh vs).all (au sh0.length)=true then (dH aD ks sh vs).take sh0.length else dH aD ks sh vs)).2.2.2) else none:=rfl
def fin (aD ks:Bool) (rs:List lx) (sh0:Sh):Option (aG×St)→Option (List AV×Sh×al)
 | some (.ret,st)=>kn aD ks sh0 st.sh st.aa (dj st rs)
 | some (.normal,st)=>kn aD ks sh0 st.sh st.aa (dj st rs)
 | _=>none
theorem FE {aD ks:Bool} {rs:List lx} {sh0:Sh} {st:St}:fin aD ks rs sh0 (some (.ret,st))=kn aD ks sh0 st.sh st.aa (dj st rs):=rfl
theorem xK {aD ks:Bool} {rs:List lx} {sh0:Sh} {st:St}:fin aD ks rs sh0 (some (.normal,st))=kn aD ks sh0 st.sh st.aa (dj st rs):=rfl
theorem FF {aD ks:Bool} {rs:List lx} {sh0:Sh} {c:Prop} [Decidable c] {x y:Option (aG×St)}:fin aD ks rs sh0 (if c then x else y)=if c then fin aD ks rs sh0 x else fin aD ks rs sh0 y:=by split<;>rfl
theorem qn {aD:Bool} {af:aw} {sh0:Sh} {r:Option (aG×St)}:finish aD af sh0 r=fin aD af.ks af.results sh0 r:=by
 cases r with
 | none=>rfl
 | some q=>
   obtain ⟨e,st⟩:=q
   cases e with
   | ret=>simp only [finish,fin];cases dj st af.results<;>simp [kn]
   | normal=>simp only [finish,fin];cases dj st af.results<;>simp [kn]
   | exit id=>simp [finish,fin]
theorem xL {st:St}:dj st []=some []:=rfl
theorem um {st:St} {r:lx} {rs:List lx}:dj st (r::rs)=ql (lZ st r) (dj st rs):=by
 simp only [dj]
 cases lZ st r<;>cases dj st rs<;>rfl
theorem FG {st:St} {n:Nat}:lZ st (.t n)=look st.env n:=rfl
def jV (key sz:Nat) (ag:Bool) (mem:List (Nat×List AV)) (sh:Sh):Option AV→Option AV
 | some (.bg d 0)=>rG key d sz ag (look mem key)
 | some (.aO s 0)=>oj ag sz 0 sh[s]?
 | _=>none
where rG (key d sz:Nat) (ag:Bool):Option (List AV)→Option AV
 | some cs=>if d=key then bz ag sz cs 0 else none
 | none=>none
theorem FH {st:St} {key sz:Nat} {ag:Bool}:lZ st (.c key sz ag)=jV key sz ag st.mem st.sh (look st.env key):=by
 simp only [lZ]
 unfold jV
 split
 · rename_i h;rw [h];rfl
 · rename_i h;rw [h];rfl
 · rename_i h1 h2
   split
   · rename_i d e;exact absurd e (h1 d)
   · rename_i s e;exact absurd e (h2 s)
   · rfl
theorem rH {key sz d:Nat} {ag:Bool} {mem:List (Nat×List AV)}:jV key sz ag mem sh (some (.bg d 0))=jV.rG key d sz ag (look mem key):=rfl
theorem rI {key sz d:Nat} {ag:Bool} {cs:List AV}:jV.rG key d sz ag (some cs)=if d=key then bz ag sz cs 0 else none:=rfl
theorem uo {key sz s:Nat} {ag:Bool} {mem:List (Nat×List AV)}:jV key sz ag mem sh (some (.aO s 0))=oj ag sz 0 sh[s]?:=rfl
theorem rJ {vs:List AV} {ks:Bool}:bG false ks sh vs=vs.map (nq sh):=rfl
theorem uq {vs:List AV}:bG true false sh vs=vs.map (nr sh):=rfl
theorem BF {vs:List AV}:bG true true sh vs=vs:=rfl
theorem ur {vs:List AV} {ks:Bool}:dH false ks sh vs=ct sh vs:=rfl
theorem xM {vs:List AV}:dH true false sh vs=ct sh vs:=rfl
theorem DE {vs:List AV}:dH true true sh vs=sh:=rfl
def Hb (v:AV):Option PV→AV
 | some p=>.pv p
 | none=>v
theorem BG {v:AV} {p:PV}:Hb v (some p)=.pv p:=rfl
theorem DF {v:AV}:nq sh v=Hb v (gQ sh v):=rfl
theorem DG {l:List PV}:nr sh (.cz l)=.cz l:=rfl
theorem DH {l:List PV} {τ:Nat}:nr sh (.own l τ)=.own l τ:=rfl
theorem DI {cs:List AV}:nr sh (.agg cs)=.agg (cs.map (mN sh)):=rfl
theorem FI {p:PV}:nr sh (.pv p)=.pv p:=rfl
theorem BH {a b:Nat}:nr sh (.aO a b)=.aO a b:=rfl
theorem FJ {a:Nat} {b:List AV}:nr sh (.fn a b)=.fn a b:=rfl
theorem BI:nr sh .eN=.eN:=rfl
theorem DJ {l:List PV}:mN sh (.cz l)=.cz l:=rfl
theorem DK {l:List PV} {τ:Nat}:mN sh (.own l τ)=.pv (.aF l):=rfl
theorem BK {b:Bool}:mN sh (.pv (.bool b))=.pv (.bool b):=rfl
theorem DL {k:IntKind} {n:Int}:mN sh (.pv (.int k n))=.pv (.int k n):=rfl
theorem DM {s:List UInt8}:mN sh (.pv (.str s))=.pv (.str s):=rfl
theorem DN {l:List PV}:mN sh (.pv (.aF l))=.pv (.aF l):=rfl
theorem BL {a b c:Nat} {d:Bool}:mN sh (.aY a b c d)=Hb (.aY a b c d) (gQ sh (.aY a b c d)):=rfl
theorem xN {vs:List AV}:ct sh vs=kill sh (vs.flatMap dq):=rfl
theorem DO:kill sh []=sh:=rfl
theorem BM {b:Nat} {l:List Nat}:kill sh (b::l)=kill (sh.set b none) l:=rfl
theorem BN {a b c:Nat} {d:Bool}:dq (.aY a b c d)=[a]:=rfl
theorem FK {p:PV}:dq (.pv p)=[]:=rfl
theorem DP {l:List PV} {τ:Nat}:dq (.own l τ)=[]:=rfl
theorem DQ {l:List PV}:dq (.cz l)=[]:=rfl
theorem BO {a b:Nat}:dq (.aO a b)=[]:=rfl
theorem FL {a:Nat} {b:List AV}:dq (.fn a b)=[]:=rfl
theorem BP:dq .eN=[]:=rfl
def qo:AV→List Nat
 | .aY b _ _ _=>[b]
 | _=>[]
theorem DR {cs:List AV}:dq (.agg cs)=cs.flatMap qo:=by
 show cs.flatMap _=cs.flatMap qo
 congr 1
theorem xO {a b c:Nat} {d:Bool}:qo (.aY a b c d)=[a]:=rfl
theorem DS {p:PV}:qo (.pv p)=[]:=rfl
theorem BQ {l:List PV} {τ:Nat}:qo (.own l τ)=[]:=rfl
theorem BR {l:List PV}:qo (.cz l)=[]:=rfl
theorem xQ:dX []=some []:=rfl
theorem uu {p:PV} {r:List AV}:dX (.pv p::r)=ql (some p) (dX r):=by
 simp only [dX]
 cases dX r<;>rfl
def jW:Option (List AV×Sh×al)→Option (List PV)
 | some (rs,_,_)=>dX rs
 | none=>none
theorem rK {rs:List AV} {t:al}:jW (some (rs,sh,t))=dX rs:=rfl
theorem uv {c:Prop} [Decidable c] {x y:Option (List AV×Sh×al)}:jW (if c then x else y)=if c then jW x else jW y:=by split<;>rfl
theorem az {g:Nat} {af:aw} {x:List PV} (hg:AP g=some af) (h1:x.length=af.nparams) (h2:af.nparams≤af.ntmps) (hp:af.ng=none:=by rfl) :
   (aC AP).p g x=jW (fin false af.ks af.results [] (cl AP af.body ⟨bt 0 (x.map .pv),[],[],[]⟩)):=by
 rw [Gc hg hp h1 (by omega)]
 unfold j9 jW
 rw [qn]
 cases fin false af.ks af.results [] (cl AP af.body ⟨bt 0 (x.map .pv),[],[],[]⟩)<;>rfl
theorem aT {g:Nat} {af:aw} {x:List AV} {ts:al} (hg:AP g=some af) (h2:x.length≤af.ntmps) :
   (aC AP).i g x sh ts=fin true af.ks af.results sh (cl AP af.body ⟨bt 0 x,[],sh,ts⟩):=by
 rw [Gd hg h2,←qn]
 rfl
end
attribute [simp] zW zX zY CG zZ z2 CH z3 z4 z5 z6 tC vG gJ zO vE zP CC zQ CD zR zS zT EX zU CE zV vF tB CF zD tn zE tq vu rb zF vv zG re zH vw zI zJ vA rh vB Cy EV HL EW Cz zL zM tv vD zN GM fl fF gH jz tw mz tA iU eJ g_ jN CB jM hG iJ Ac hH pK Ad Ae CU Ax Ay vS tI Az oq vT AA CV CW vU vV vY tK C1 AF AG vZ C2 v5 AH tL v_ wa tM Fa Fb C3 wb tN AI wc Fe G7 Ff Fg AJ Fh we tO tP C4 rk C5 AL C6 C7 C8 C9 C_ C' AM ot AN ou oz AO wg AQ wh AR AS tQ AT wm wo wq Db wt Fi tT wx wy mQ lN wz wA mR lO wB AW De AX wD wE Dg wF look_nil AZ Dh A0 A1 A3 A4 cG wH rp pL wI tV tW wJ wK wL wM wN tX wO tY wP wQ wR wS A5 A6 A7 A8 A9 wT Di wU A_ wV A' Dj Ba wW wX wY Dk Bb Be w_ Dm Bf Bg xa xd Bh xe xf t4 t5 t6 Bi xg t8 rq xh qm xi t_ Bk ua ub xk mB mC pN rB rC rD ud xm rE ue xn xo HU Bl xp Bm Fj Bn xq Dn xt Bo xw Bp xx Bs Bw vW CX tJ CY AB CZ AD b2sO_some bind_none bind_some xy ug uh rF ui G9 Dq Fk xz xA xB xC uj Bx xE xF xG By Bz BA BB xH BC xI BD Fl Dr Du Dv Dw Dx G_ Ha Dy Dz Fm Fo Fp Fq Fs Ft Fu Fv Fw Fx Fy Fz FA FB FC FD DA DB DC DD BE xJ uk FE xK FF xL um FG FH rH rI uo rJ uq BG DF DG DH DI FI BH FJ BI DJ DK BK DL DM DN BL xN DO BM BN FK DP DQ BO FL BP DR xO DS BQ BR xQ uu rK uv v7 wu wv wG wZ uc EY CI z7 iK gK jO kf z8 rj pJ om z9 qj Bt Bu Dp Bv z_ Aa AE mA vX tR rm wj tS AU Da wk wC tU Df AY w0 tZ Bc Dl Bd w9 rA pM xj Bj t9 BF ur xM DE Bq Af vH iM tD CM CN EZ CR Ai Aj Ao Ap vJ Ah CQ Ag vK vL uf Aq tE vQ tF vM iL vN Au vO Av gg CT Aw vP tH vR GL ER ES GJ Cv List.getElem?_cons_zero
theorem aI {n:Int} (h1:-9223372036854775808≤n) (h2:n≤9223372036854775807):IntKind.i64.wrap n=n:=by
 simp [IntKind.wrap,IntKind.bits,IntKind.signed]
 omega
end Go.Ab.Ev
namespace Go.Ab
open Ev
structure rL (P:Program) (ns:Names) (f sz:Nat) (ag:Bool) where
 fn:Func
 A:gm
 o0:Array Oper
 o1:Array Oper
 o2:Array Oper
 m0:Oper
 Ht:List Oper
 y:Oper
 nt:Oper
 r0:Nat
 r1:Nat
 r2:Nat
 r3:Nat
 b0:Nat
 b1:Nat
 types:Array TypeId
 tb:TypeId
 hf:P.funcs[f]?=some fn
 uw:fn.body=some (.seq (.region r0 o0 false) (.block b0 (.loop (.seq (.seq (.region r1 o1 false) (.cond (.tmp 8) .skip (.exit b0)))
   (.seq (.block b1 (.seq (.region r3 (m0::Ht++[y,nt]).toArray false) (.cond (.tmp 18) .ret .skip))) (.region r2 o2 false))))))
 eO:fn.results=#[]
 hN:fn.ntmps=19
 c0:bB (bH P ns A 19 o0) o0.toList=some [⟨some 4,none,[.t 1],.v (.e9 1 false)⟩,⟨some 5,none,[.t 4],.v .len⟩,⟨some 6,none,[.t 5,.c (.pv (.int .i64 1))],.v (.bin .sub)⟩,⟨some 3,none,[.t 6],.v .mv⟩]
 c1:bB (bH P ns A 19 o1) o1.toList=some [⟨some 7,none,[.t 3],.v .mv⟩,⟨some 8,none,[.t 7,.c (.pv (.int .i64 0))],.v (.bin .geq)⟩]
 c2:bB (bH P ns A 19 o2) o2.toList=some [⟨some 9,none,[.t 3],.v .mv⟩,⟨some 10,none,[.t 9,.c (.pv (.int .i64 1))],.v (.bin .sub)⟩,⟨some 3,none,[.t 10],.v .mv⟩]
 h0:m0.op=.move (.tmp 0)∧m0.dst=some 11∧m0.guard=none
 c3:bB (bH P ns A 19 (m0::Ht++[y,nt]).toArray) Ht=some [⟨some 12,none,[.t 3],.v .mv⟩,⟨some 13,none,[.t 1],.v (.e9 1 false)⟩,⟨some 14,none,[.t 3],.v .mv⟩,⟨some 15,none,[.t 13,.t 14],.v (.e8 sz)⟩,⟨some 16,none,[.t 15],.v (.e9 sz ag)⟩]
 hy:y.op=.call { callee:=.value (.tmp 11),args:=#[.tmp 12,.tmp 16],argTypes:=types }∧y.dst=some 17∧y.guard=none
 hn:nt.op=.unOp .not tb (.tmp 17)∧nt.dst=some 18∧nt.guard=none
section
variable {P:Program} {ns:Names}
theorem dU {n0:Nat} {ro:Option Nat} {n:Nat} (hB:dZ P ns) {orc:dh} (horc:fe P ns orc) {A:gm} {N:Nat} {ops:Array Oper} {Q:Exit→Act→World→Prop} {rest:List Oper}:∀{l:List Oper} {as:List cr} {st st':St} {G:Gh} {a:Act} {w:World},
   bB (bH P ns A N ops) l=some as→dM (num ns) n0 N G st a w→aW orc as st=some st' →
   (∀G' a' w',dM (num ns) n0 N G' st' a' w'→aZ G w G' w'→a'.defers=a.defers→(∀t,(∀ao∈as,ao.dst≠some t)→a'.tmps[t]?=a.tmps[t]?)→wpListIn (je ro) n P ops Q rest a' w')→wpListIn (je ro) n P ops Q (l++rest) a w
 | [],as,st,st',G,a,w,hc,hs,hev,hq=>by
   simp [bB] at hc;subst hc
   simp [aW] at hev;subst hev
   exact hq G a w hs (aZ.refl G w) rfl (fun _ _=>rfl)
 | o::l,as,st,st',G,a,w,hc,hs,hev,hq=>by
   simp only [bB] at hc
   split at hc
   · rename_i ao aos h1 h2
     simp at hc;subst hc
     simp only [aW] at hev
     split at hev
     · simp at hev
     · rename_i st1 hst1
       rw [List.cons_append]
       unfold wpListIn
       have hd:ao.dst=o.dst:=by obtain ⟨_,_,_,h,_⟩:=eB h1;exact h
       have hput:∀(a:Act) (v:Value) t,ao.dst≠some t→(a.put o.dst v).tmps[t]?=a.tmps[t]?:=by
         intro a v t ht
         rw [hd] at ht
         cases ho:o.dst with
         | none=>rfl
         | some d=>
           rw [ho] at ht
           simp only [Act.put]
           rw [Array.getElem?_setIfInBounds_ne]
           intro e;exact ht (by rw [e])
       exact mX hB horc h1 hs hst1 (fun G' v w' hs' he=>dU hB horc h2 hs' hev (fun G'' a'' w'' hs'' he' hdf hk=>hq G'' a'' w'' hs'' (he.trans he') (hdf.trans (put_defers _ _ _)) (fun t ht=>by
         rw [hk t (fun ao' h=>ht ao' (by simp [h]))]
         exact hput a v t (ht ao (by simp)))))
   · simp at hc
theorem lP {F:Fence} {n:Nat} {ops:Array Oper} {Q:Exit→Act→World→Prop} {rest:List Oper} {o:Oper} {x:Operand} {a:Act} {w:World} (hF:∀f,F.fn f) (ho:o.op=.move x) (hg:o.guard=none)
   (h:wpListIn F n P ops Q rest (a.put o.dst (a.eval x)) w):wpListIn F n P ops Q (o::rest) a w:=by
 unfold wpListIn
 have hw:Region.wanted o (yielded ops a.tmps)=true:=by simp [Region.wanted,hg]
 rw [if_pos hw]
 refine ⟨fun _ _=>hF _,?_⟩
 rw [Oper.semAt_eq _ _ _ (by intro c e;rw [ho] at e;cases e)]
 have hr:(execOp a.eval o).run P w=.ok (.value (a.eval x)) w:=by
   obtain ⟨dst,op,type,pos,after,guard⟩:=o
   simp only at ho;subst ho
   simp [execOp]
 rw [hr]
 exact h
theorem xR {F:Fence} {n l:Nat} {ops:Array Oper} {Q:Exit→Act→World→Prop} {rest:List Oper} {o:Oper} {types:Array TypeId} {a:Act} {w:World} {x y:Value} (hF:∀f,F.fn f) (hd:F.depth=none)
   (ho:o.op=.call { callee:=.value (.tmp 11),args:=#[.tmp 12,.tmp 16],argTypes:=types }) (hg:o.guard=none) (h11:a.tmps[11]?=some (.func (.yield l) #[] #[])) (h12:a.tmps[12]?=some x) (h16:a.tmps[16]?=some y)
   (h:YieldAt F (n-1) P l #[x,y] w fun e w'=>∃v,e=.returned v∧wpListIn F n P ops Q rest (a.put o.dst v) w'):wpListIn F n P ops Q (o::rest) a w:=by
 unfold wpListIn
 have hw:Region.wanted o (yielded ops a.tmps)=true:=by simp [Region.wanted,hg]
 rw [if_pos hw]
 refine ⟨fun _ _=>hF _,?_⟩
 rw [Oper.semAt_eq _ _ _ (by intro c e;rw [ho] at e;cases e)]
 obtain ⟨fn,tmps,assign,body,hy,hR⟩:=h
 have e11:a.eval (.tmp 11)=.func (.yield l) #[] #[]:=by simp [Act.eval,h11]
 have e12:a.eval (.tmp 12)=x:=by simp [Act.eval,h12]
 have e16:a.eval (.tmp 16)=y:=by simp [Act.eval,h16]
 have hr:(execOp a.eval o).run P w=.ok (.round l fn tmps assign body) w:=by
   obtain ⟨dst,op,type,pos,after,guard⟩:=o
   simp only at ho;subst ho
   simp only [execOp,resolve,Sem.run_bind,e11,Deferred.ofValue,Sem.run_pure,Result.andThen_ok,invoke,callFunc]
   simp [e12,e16,hy]
 rw [hr]
 refine ⟨fun e=>by rw [hd] at e;simp at e,hR.mono ?_⟩
 rintro e w' ⟨v,rfl,h⟩
 exact h
theorem ux {F:Fence} {n:Nat} {ops:Array Oper} {Q:Exit→Act→World→Prop} {rest:List Oper} {o:Oper} {t:TypeId} {b:Bool} {a:Act} {w:World} (hF:∀f,F.fn f) (ho:o.op=.unOp .not t (.tmp 17)) (hg:o.guard=none)
   (h17:a.tmps[17]?=some (.bool b)) (h:wpListIn F n P ops Q rest (a.put o.dst (.bool !b)) w):wpListIn F n P ops Q (o::rest) a w:=by
 unfold wpListIn
 have hw:Region.wanted o (yielded ops a.tmps)=true:=by simp [Region.wanted,hg]
 rw [if_pos hw]
 refine ⟨fun _ _=>hF _,?_⟩
 rw [Oper.semAt_eq _ _ _ (by intro c e;rw [ho] at e;cases e)]
 have e17:a.eval (.tmp 17)=.bool b:=by simp [Act.eval,h17]
 have hr:(execOp a.eval o).run P w=.ok (.value (.bool !b)) w:=by
   obtain ⟨dst,op,type,pos,after,guard⟩:=o
   simp only at ho;subst ho
   simp [execOp,h17,go_sem,Op.unary]
 rw [hr]
 exact h
structure mD (L:List PV) (bx l:Nat) (k:Nat) (a:Act):Prop where
 size:a.tmps.size=19
 defers:a.defers=[]
 t0:a.tmps[0]?=some (.func (.yield l) #[] #[])
 t1:a.tmps[1]?=some (.pointer (some ⟨bx,0,none⟩))
 t3:a.tmps[3]?=some (.int .i64 ((L.length:Int)-1-k))
theorem mD.Iy {L:List PV} {bx l k:Nat} {a:Act} {st:St} {G:Gh} {W:World} (h:mD L bx l k a) (hi:Inv (num ns) G W st.mem st.sh st.aa) (hb:ah (num ns) G (.cS [.aF L]) (.pointer (some ⟨bx,0,none⟩))) :
   dM (num ns) 0 19 G { env:=[(1,.cS [.aF L]),(3,.pv (.int .i64 ((L.length:Int)-1-k)))],mem:=st.mem,sh:=st.sh,aa:=st.aa } a W:=by
 refine ⟨⟨h.size,fun t x hx=>?_⟩,hi,Nat.zero_le _,[],by simpa using h.defers,by simp,by simp⟩
 simp only [look] at hx
 split at hx
 · rename_i e;subst e;cases hx;exact ⟨_,h.t1,hb⟩
 · split at hx
   · rename_i e;subst e;cases hx;exact ⟨_,h.t3,by simp [ah,Rel,R]⟩
   · cases hx
section
variable {orc:dh} {mem:List (Nat×List AV)} {sh:Sh} {aa:al} {L:List PV}
theorem IY (hL:L.length<4611686018427387904):aW orc [⟨some 4,none,[.t 1],.v (.e9 1 false)⟩,⟨some 5,none,[.t 4],.v .len⟩,⟨some 6,none,[.t 5,.c (.pv (.int .i64 1))],.v (.bin .sub)⟩,⟨some 3,none,[.t 6],.v .mv⟩]
   { env:=[(1,.cS [.aF L])],mem,sh,aa }=some { env:=[(1,.cS [.aF L]),(4,.pv (.aF L)),(5,.pv (.int .i64 L.length)),(6,.pv (.int .i64 ((L.length:Int)-1))),(3,.pv (.int .i64 ((L.length:Int)-1)))],mem,sh,aa }:=by
 simp (disch:=omega) [aI]
theorem I_ {i:Int}:aW orc [⟨some 7,none,[.t 3],.v .mv⟩,⟨some 8,none,[.t 7,.c (.pv (.int .i64 0))],.v (.bin .geq)⟩]
   { env:=[(1,.cS [.aF L]),(3,.pv (.int .i64 i))],mem,sh,aa }=some { env:=[(1,.cS [.aF L]),(3,.pv (.int .i64 i)),(7,.pv (.int .i64 i)),(8,.pv (.bool (decide (0≤i))))],mem,sh,aa }:=by
 simp (disch:=omega) [aI]
theorem Jy {i:Int} (h0:-4611686018427387904<i) (h1:i<4611686018427387904):aW orc [⟨some 9,none,[.t 3],.v .mv⟩,⟨some 10,none,[.t 9,.c (.pv (.int .i64 1))],.v (.bin .sub)⟩,⟨some 3,none,[.t 10],.v .mv⟩]
   { env:=[(1,.cS [.aF L]),(3,.pv (.int .i64 i))],mem,sh,aa }=some { env:=[(1,.cS [.aF L]),(3,.pv (.int .i64 (i-1))),(9,.pv (.int .i64 i)),(10,.pv (.int .i64 (i-1)))],mem,sh,aa }:=by
 simp (disch:=omega) [aI]
theorem Jz {i sz:Nat} {ag:Bool} {el:PV} {x:AV} (hi:L[i]?=some el) (hx:po sz ag el=some x):∃p,aW orc [⟨some 12,none,[.t 3],.v .mv⟩,⟨some 13,none,[.t 1],.v (.e9 1 false)⟩,⟨some 14,none,[.t 3],.v .mv⟩,⟨some 15,none,[.t 13,.t 14],.v (.e8 sz)⟩,⟨some 16,none,[.t 15],.v (.e9 sz ag)⟩]
   { env:=[(1,.cS [.aF L]),(3,.pv (.int .i64 i))],mem,sh,aa }=some { env:=[(1,.cS [.aF L]),(3,.pv (.int .i64 i)),(12,.pv (.int .i64 i)),(13,.pv (.aF L)),(14,.pv (.int .i64 i)),(15,p),(16,x)],mem,sh,aa }:=by
 refine ⟨.cS (aH el),?_⟩
 have hlt:=(List.getElem?_eq_some_iff.1 hi).1
 unfold po at hx
 simp only [Option.ite_none_right_eq_some] at hx
 obtain ⟨hsz,hx⟩:=hx
 have hi0:¬((i:Int)<0):=by omega
 simp (disch:=omega) [-getElem?_pos,hi,hi0,hsz,hx]
end
theorem FM {orc:dh} (hB:dZ P ns) (horc:fe P ns orc) {f sz:Nat} {ag:Bool} (D:rL P ns f sz ag) {L:List PV} (hL:L.length<4611686018427387904) {bx l:Nat} {J:Nat→St→Gh→World→Prop} {Jx:World→Prop}
   (hInv:∀{k st G W},J k st G W→Inv (num ns) G W st.mem st.sh st.aa)
   (hEvo:∀{k st G W G' W'},J k st G W→Inv (num ns) G' W' st.mem st.sh st.aa→aZ G W G' W'→J k st G' W')
   (hbox:∀{k st G W},J k st G W→ah (num ns) G (.cS [.aF L]) (.pointer (some ⟨bx,0,none⟩)))
   (hel:∀{k st G W},J k st G W→k<L.length→∃el x,L[L.length-1-k]?=some el∧po sz ag el=some x)
   (hY:∀{k st G W el x v},J k st G W→k<L.length→L[L.length-1-k]?=some el→po sz ag el=some x→ah (num ns) G x v →
     YieldAt Fence.wide 0 P l #[.int .i64 ((L.length-1-k:Nat):Int),v] W fun e W'=>(e=.returned (.bool true)∧∃st' G',J (k+1) st' G' W')∨(e=.returned (.bool false)∧Jx W'))
   {st:St} {G:Gh} {W:World} (h0:J 0 st G W) :
   CallsIn Fence.wide 0 P f #[.func (.yield l) #[] #[],.pointer (some ⟨bx,0,none⟩)] W fun e W'=>(∃v,e=.returned v)∧((∃st' G',J L.length st' G' W')∨Jx W'):=by
 have hF:∀f,Fence.wide.fn f:=fun _=>trivial
 have fin:∀(a:Act) (W':World),a.defers=[]→((∃st' G',J L.length st' G' W')∨Jx W')→a.defers=[]∧∃v,(results D.fn a.tmps).run P W'=.ok v W'∧((∃u,Ending.returned v=.returned u)∧((∃st' G',J L.length st' G' W')∨Jx W')):=by
   intro a W' hd h
   refine ⟨hd,.tuple #[],?_,⟨_,rfl⟩,h⟩
   simp [results,D.eO]
 refine callsIn_of_wp D.hf D.uw trivial ?_ rfl
 rw [D.hN]
 refine wpIn_seq (wpIn_region_list ?_)
 have hs0:dM (num ns) 0 19 G { env:=[(1,.cS [.aF L])],mem:=st.mem,sh:=st.sh,aa:=st.aa } { tmps:=#[.func (.yield l) #[] #[],.pointer (some ⟨bx,0,none⟩)]++Array.replicate (19-(#[.func (.yield l) #[] #[],.pointer (some ⟨bx,0,none⟩)]:Array Value).size) undef,defers:=[] } W:=by
   have i0:=hInv h0
   refine ⟨⟨by simp,fun t x hx=>?_⟩,i0,Nat.zero_le _,[],rfl,by simp,by simp⟩
   simp only [look] at hx
   split at hx
   · rename_i e;subst e;cases hx;exact ⟨_,by simp,hbox h0⟩
   · cases hx
 rw [←List.append_nil D.o0.toList]
 refine dU (ro:=none) hB horc D.c0 hs0 (IY hL) fun G1 a1 W1 hs1 he1 hd1 hk1=>?_
 change (Code.block D.b0 _).wpIn Fence.wide 0 P _ a1 W1
 have J1:J 0 st G1 W1:=hEvo h0 hs1.inv he1
 have hh1:mD L bx l 0 a1:=by
   refine ⟨hs1.env.size,hd1,?_,?_,?_⟩
   · rw [hk1 0 (by simp)];simp
   · rw [hk1 1 (by simp)];simp
   · obtain ⟨v,h1,h2⟩:=hs1.env.env 3 _ rfl
     simp [ah,Rel,R] at h2
     rw [h1,h2];simp
 refine wpIn_block (wpIn_loop_rounds (L.length+1) ?_)
 have round:∀(j k:Nat) (a:Act) (st:St) (G:Gh) (W:World),L.length-k=j→k≤L.length→mD L bx l k a→J k st G W →
     Code.roundsIn Fence.wide 0 P (.seq (.seq (.region D.r1 D.o1 false) (.cond (.tmp 8) .skip (.exit D.b0))) (.seq (.block D.b1 (.seq (.region D.r3 (D.m0::D.Ht++[D.y,D.nt]).toArray false) (.cond (.tmp 18) .ret .skip))) (.region D.r2 D.o2 false)))
       (Exit.inBlock D.b0 (bodyPost P D.fn fun e W'=>(∃v,e=.returned v)∧((∃st' G',J L.length st' G' W')∨Jx W'))) (j+1) a W:=by
   intro j
   induction j with
   | zero=>
     intro k a st G W hj hk hh hJ
     rw [roundsIn_succ]
     refine wpIn_seq (wpIn_seq (wpIn_region_list ?_))
     rw [←List.append_nil D.o1.toList]
     refine dU (ro:=none) hB horc D.c1 (hh.Iy (hInv hJ) (hbox hJ)) I_ fun G1 a1 W1 hs1 he1 hd1 hk1=>?_
     change (Code.cond (.tmp 8) .skip (.exit D.b0)).wpIn Fence.wide 0 P _ a1 W1
     obtain ⟨v8,h8,r8⟩:=hs1.env.env 8 _ rfl
     have hJ1:=hEvo hJ hs1.inv he1
     have aD:mD L bx l k a1:=⟨hs1.env.size,hd1.trans hh.defers,by rw [hk1 0 (by simp)];exact hh.t0,by rw [hk1 1 (by simp)];exact hh.t1,by rw [hk1 3 (by simp)];exact hh.t3⟩
     simp [ah,Rel,R] at r8
     have hkl:k=L.length:=by omega
     subst hkl
     have hc:a1.eval (.tmp 8)=.bool false:=by simp [Act.eval,h8,r8];omega
     refine wpIn_cond_false hc (wpIn_exit ?_)
     simp only [Exit.then,Exit.inBlock,if_true]
     exact fin a1 W1 aD.defers (.inl ⟨_,_,hJ1⟩)
   | succ j ih=>
     intro k a st G W hj hk hh hJ
     rw [roundsIn_succ]
     refine wpIn_seq (wpIn_seq (wpIn_region_list ?_))
     rw [←List.append_nil D.o1.toList]
     refine dU (ro:=none) hB horc D.c1 (hh.Iy (hInv hJ) (hbox hJ)) I_ fun G1 a1 W1 hs1 he1 hd1 hk1=>?_
     change (Code.cond (.tmp 8) .skip (.exit D.b0)).wpIn Fence.wide 0 P _ a1 W1
     obtain ⟨v8,h8,r8⟩:=hs1.env.env 8 _ rfl
     have hJ1:=hEvo hJ hs1.inv he1
     have aD:mD L bx l k a1:=⟨hs1.env.size,hd1.trans hh.defers,by rw [hk1 0 (by simp)];exact hh.t0,by rw [hk1 1 (by simp)];exact hh.t1,by rw [hk1 3 (by simp)];exact hh.t3⟩
     simp [ah,Rel,R] at r8
     have hkl:k<L.length:=by omega
     have hc:a1.eval (.tmp 8)=.bool true:=by simp [Act.eval,h8,r8];omega
     refine wpIn_cond_true hc (wpIn_skip ?_)
     change (Code.seq (.block D.b1 _) (.region D.r2 D.o2 false)).wpIn Fence.wide 0 P _ a1 W1
     refine wpIn_seq (wpIn_block (wpIn_seq (wpIn_region_list ?_)))
     have hl3:((D.m0::D.Ht++[D.y,D.nt]).toArray).toList=D.m0::(D.Ht++[D.y,D.nt]):=by simp
     rw [hl3]
     refine lP hF D.h0.1 D.h0.2.2 ?_
     have e0:a1.eval (.tmp 0)=.func (.yield l) #[] #[]:=by simp [Act.eval,aD.t0]
     rw [D.h0.2.1,e0]
     have keep2:mD L bx l k (a1.put (some 11) (.func (.yield l) #[] #[])):=by
       refine ⟨by simp [Act.put,aD.size],aD.defers,?_,?_,?_⟩
       · simp only [Act.put];rw [Array.getElem?_setIfInBounds_ne (by decide)];exact aD.t0
       · simp only [Act.put];rw [Array.getElem?_setIfInBounds_ne (by decide)];exact aD.t1
       · simp only [Act.put];rw [Array.getElem?_setIfInBounds_ne (by decide)];exact aD.t3
     obtain ⟨el,x,hi,hx⟩:=hel hJ1 hkl
     have i3:(L.length:Int)-1-k=((L.length-1-k:Nat):Int):=by omega
     obtain ⟨p,hev⟩:=Jz (orc:=orc) (mem:=st.mem) (sh:=st.sh) (aa:=st.aa) hi hx
     have hs2:=keep2.Iy (hInv hJ1) (hbox hJ1)
     rw [i3] at hs2
     refine dU (ro:=none) hB horc D.c3 hs2 hev fun G3 a3 W3 hs3 he3 hd3 hk3=>?_
     have hJ3:=hEvo hJ1 hs3.inv he3
     obtain ⟨v12,h12,r12⟩:=hs3.env.env 12 _ rfl
     obtain ⟨v16,h16,r16⟩:=hs3.env.env 16 _ rfl
     simp [ah,Rel,R] at r12
     subst r12
     have h11:a3.tmps[11]?=some (.func (.yield l) #[] #[]):=by rw [hk3 11 (by simp)];simp [Act.put,aD.size]
     have h3:a3.tmps[3]?=some (.int .i64 ((L.length:Int)-1-k)):=by rw [hk3 3 (by simp)];exact keep2.t3
     have h0':a3.tmps[0]?=some (.func (.yield l) #[] #[]):=by rw [hk3 0 (by simp)];exact keep2.t0
     have h1':a3.tmps[1]?=some (.pointer (some ⟨bx,0,none⟩)):=by rw [hk3 1 (by simp)];exact keep2.t1
     have hsz3:=hs3.env.size
     refine xR hF rfl D.hy.1 D.hy.2.2 h11 h12 h16 ?_
     obtain ⟨fn,tmps,assign,body,hy1,hR⟩:=hY hJ3 hkl hi hx r16
     refine ⟨fn,tmps,assign,body,hy1,hR.mono ?_⟩
     have put17:∀v,(a3.put D.y.dst v).tmps[17]?=some v:=by intro v;rw [D.hy.2.1];simp [Act.put,hsz3]
     have both:∀b u,mD L bx l k ((a3.put D.y.dst u).put D.nt.dst (.bool b))∧((a3.put D.y.dst u).put D.nt.dst (.bool b)).tmps[18]?=some (.bool b):=by
       intro b u
       rw [D.hy.2.1,D.hn.2.1]
       refine ⟨⟨by simp [Act.put,hsz3],hd3.trans keep2.defers,?_,?_,?_⟩,by simp [Act.put,hsz3]⟩
       · simp only [Act.put];rw [Array.getElem?_setIfInBounds_ne (by decide),Array.getElem?_setIfInBounds_ne (by decide)];exact h0'
       · simp only [Act.put];rw [Array.getElem?_setIfInBounds_ne (by decide),Array.getElem?_setIfInBounds_ne (by decide)];exact h1'
       · simp only [Act.put];rw [Array.getElem?_setIfInBounds_ne (by decide),Array.getElem?_setIfInBounds_ne (by decide)];exact h3
     rintro e W' (⟨rfl,st',G',hJ'⟩ | ⟨rfl,hx'⟩)
     · refine ⟨_,rfl,ux hF D.hn.1 D.hn.2.2 (put17 _) ?_⟩
       obtain ⟨hh4,h18⟩:=both false (.bool true)
       change (Code.cond (.tmp 18) .ret .skip).wpIn Fence.wide 0 P _ ((a3.put D.y.dst (.bool true)).put D.nt.dst (.bool false)) W'
       refine wpIn_cond_false (by simp [Act.eval,h18]) (wpIn_skip ?_)
       change (Code.region D.r2 D.o2 false).wpIn Fence.wide 0 P _ _ W'
       refine wpIn_region_list ?_
       rw [←List.append_nil D.o2.toList]
       refine dU (ro:=none) hB horc D.c2 (hh4.Iy (hInv hJ') (hbox hJ')) (Jy (by omega) (by omega)) fun G5 a5 W5 hs5 he5 hd5 hk5=>?_
       have hJ5:=hEvo hJ' hs5.inv he5
       obtain ⟨v3,g3,s3⟩:=hs5.env.env 3 _ rfl
       simp [ah,Rel,R] at s3
       refine ih (k+1) a5 st' G5 W5 (by omega) (by omega) ⟨hs5.env.size,hd5.trans hh4.defers,by rw [hk5 0 (by simp)];exact hh4.t0,by rw [hk5 1 (by simp)];exact hh4.t1,?_⟩ hJ5
       rw [g3,s3]
       congr 2
       omega
     · refine ⟨_,rfl,ux hF D.hn.1 D.hn.2.2 (put17 _) ?_⟩
       obtain ⟨hh4,h18⟩:=both true (.bool false)
       change (Code.cond (.tmp 18) .ret .skip).wpIn Fence.wide 0 P _ ((a3.put D.y.dst (.bool false)).put D.nt.dst (.bool true)) W'
       refine wpIn_cond_true (by simp [Act.eval,h18]) (wpIn_ret ?_)
       exact fin _ W' hh4.defers (.inr hx')
 exact round L.length 0 a1 st G1 W1 (by omega) (by omega) hh1 J1
theorem Inv.iV {G:Gh} {w:World} {mem:List (Nat×List AV)} {sh:Sh} {aa:al} {l:Nat} {r:Loop} (hi:Inv (num ns) G w mem sh aa) (hl:w.heap[l]?=some (.loop r)) (o':Obj) :
   Inv (num ns) G (w.putObj l o') mem sh aa:=by
 have hne:∀{b:Nat} {c:Array Value} {t:TypeId},w.heap[b]?=some (.cells c t (0,0))→(w.putObj l o').heap[b]?=some (.cells c t (0,0)):=by
   intro b c t h
   rw [World.putObj_heap_other]
   · exact h
   · rintro rfl;rw [hl] at h;cases h
 have hsize:(w.putObj l o').heap.size=w.heap.size:=by simp [World.putObj]
 refine { hi with known:=?_,fresh:=?_,bM:=?_,bS:=?_,bT:=?_,jo:=?_ }
 · intro b o v hk
   have h:=hi.known b o v hk
   rw [←h]
   have:b≠l:=by rintro rfl;simp [World.cell?,hl] at h
   simp only [World.cell?,World.putObj_heap_other this]
 · intro b hb;exact hi.fresh b (by omega)
 · intro k cs hk
   obtain ⟨b,e1,⟨e2,c,t,e3,e4⟩,e5⟩:=hi.bM k cs hk
   exact ⟨b,e1,⟨e2,c,t,hne e3,e4⟩,e5⟩
 · intro k cs hk
   obtain ⟨b,e1,⟨e2,o,e3,e4⟩,e5⟩:=hi.bS k cs hk
   refine ⟨b,e1,⟨e2,o,?_,e4⟩,e5⟩
   rw [World.putObj_heap_other]
   · exact e3
   · rintro rfl
     rw [hl] at e3;cases e3
     rcases e4 with ⟨_,_,_,_,h,_⟩ | ⟨_,_,_,h,_⟩<;>cases h
 · intro τ n hn
   obtain ⟨t,e1,e2,e3⟩:=hi.bT τ n hn
   refine ⟨t,e1,e2,e3.cap,e3.zero,fun hlt=>?_⟩
   obtain ⟨b,o,c,ty,f1,f2,f3,f4,f5⟩:=e3.spare hlt
   exact ⟨b,o,c,ty,f1,f2,hne f3,f4,f5⟩
 · intro b c hb
   obtain ⟨h1,t',z,h2⟩:=hi.jo b c hb
   refine ⟨h1,t',z,?_⟩
   rw [World.putObj_heap_other]
   · exact h2
   · rintro rfl;rw [hl] at h2;cases h2
theorem aZ.putObj {G G':Gh} {w w':World} {l:Nat} (he:aZ G w G' w') (hl:w.heap.size≤l) (o':Obj):aZ G w G' (w'.putObj l o'):=
 { he with
   size:=by simpa [World.putObj] using he.size
   os:=by simpa [World.putObj] using he.os
   tape:=by simpa [World.putObj] using he.tape
   output:=by simpa [World.putObj] using he.output
   cP:=fun b hb hr=>by
     obtain ⟨h1,h2⟩:=he.cP b hb hr
     exact ⟨h1,by rw [World.putObj_heap_other (by omega)];exact h2⟩ }
theorem Inv.oA {G:Gh} {w:World} {mem:List (Nat×List AV)} {sh:Sh} {aa:al} (hi:Inv (num ns) G w mem sh aa) (o:Obj):Inv (num ns) G (w.alloc o) mem sh aa:=by
 have hne:∀{b:Nat} {x:Obj},w.heap[b]?=some x→(w.alloc o).heap[b]?=some x:=by
   intro b x h
   have hlt:=(Array.getElem?_eq_some_iff.1 h).1
   rw [RowKit.Below.heap_alloc _ _ _ hlt];exact h
 have hsize:(w.alloc o).heap.size=w.heap.size+1:=World.size_alloc _ _
 refine { hi with known:=?_,fresh:=?_,bM:=?_,bS:=?_,bT:=?_,jo:=?_ }
 · intro b o' v hk
   have h:=hi.known b o' v hk
   rw [←h]
   have hlt:b<w.heap.size:=by
     rcases Nat.lt_or_ge b w.heap.size with h' | h'
     · exact h'
     · simp [World.cell?,Array.getElem?_eq_none h'] at h
   simp only [World.cell?,RowKit.Below.heap_alloc _ _ _ hlt]
 · intro b hb;exact hi.fresh b (by omega)
 · intro k cs hk
   obtain ⟨b,e1,⟨e2,c,t,e3,e4⟩,e5⟩:=hi.bM k cs hk
   exact ⟨b,e1,⟨e2,c,t,hne e3,e4⟩,e5⟩
 · intro k cs hk
   obtain ⟨b,e1,⟨e2,o',e3,e4⟩,e5⟩:=hi.bS k cs hk
   exact ⟨b,e1,⟨e2,o',hne e3,e4⟩,e5⟩
 · intro τ n hn
   obtain ⟨t,e1,e2,e3⟩:=hi.bT τ n hn
   refine ⟨t,e1,e2,e3.cap,e3.zero,fun hlt=>?_⟩
   obtain ⟨b,o,c,ty,f1,f2,f3,f4,f5⟩:=e3.spare hlt
   exact ⟨b,o,c,ty,f1,f2,hne f3,f4,f5⟩
 · intro b c hb
   obtain ⟨h1,t',z,h2⟩:=hi.jo b c hb
   exact ⟨h1,t',z,hne h2⟩
theorem aZ.oA {G G':Gh} {w w':World} (he:aZ G w G' w') (o:Obj):aZ G w G' (w'.alloc o):=
 { he with
   size:=by rw [World.size_alloc];exact Nat.le_succ_of_le he.size
   os:=he.os
   tape:=he.tape
   output:=he.output
   cP:=fun b hb hr=>by
     obtain ⟨h1,h2⟩:=he.cP b hb hr
     exact ⟨h1,by rw [RowKit.Below.heap_alloc _ _ _ (Nat.lt_of_lt_of_le hb he.size)];exact h2⟩ }
theorem uy {L:List PV} {k:Nat} (hk:k<L.length):∃el,L[L.length-1-k]?=some el∧L.zipIdx.reverse.drop k=(el,L.length-1-k)::L.zipIdx.reverse.drop (k+1):=by
 have hlt:L.length-1-k<L.length:=by omega
 refine ⟨L[L.length-1-k],List.getElem?_eq_getElem hlt,?_⟩
 have hl:k<L.zipIdx.reverse.length:=by simp;exact hk
 rw [List.drop_eq_getElem_cons hl]
 congr 1
 simp
def ix (fn:FuncId) (tmps:Array Value) (ps:Array Tmp) (x y:Code) (D:Nat) (s:LoopState) (pe:Option Code):Loop:={ state:=s,pending:=pe,fn,tmps,params:=ps,assign:=x,body:=y,defers:=D }
def Hc:aG→Code
 | .normal=>.skip
 | .ret=>.ret
 | .exit id=>.exit id
structure BJ (ns:Names) (Gs:Gh) (w:World) (F:St→Option (aG×St)) (live:List Nat) (pi px sz:Nat) (ag:Bool) (env0:List (Nat×AV)) (L:List PV) (bx:Nat) (l D:Nat) (rec:Loop) (res:aG×St) (k:Nat) (st:St) (G:Gh) (W:World):Prop where
 inv:Inv (num ns) G W st.mem st.sh st.aa
 pd:aZ Gs w G W
 xS:W.heap[l]?=some (.loop rec)
 rl:G.role l=.cP
 HX:W.heap[D]?=some (.deferred (some []))
 rd:G.role D=.cP
 box:ah (num ns) G (.cS [.aF L]) (.pointer (some ⟨bx,0,none⟩))
 rest:gv F live pi px sz ag env0 (L.zipIdx.reverse.drop k) st=some res
theorem qp {G G':Gh} {cs:List PV} {v:Value} (hK:G.K.le G'.K) (h:ah (num ns) G (.cS cs) v):ah (num ns) G' (.cS cs) v:=by
 simp only [ah] at h ⊢
 obtain ⟨b,o,vs,e,f,r⟩:=h
 exact ⟨b,o,vs,e,f.mono hK,cg.mono hK _ _ r⟩
theorem BJ.go {Gs:Gh} {w:World} {F:St→Option (aG×St)} {live:List Nat} {pi px sz:Nat} {ag:Bool} {env0:List (Nat×AV)} {L:List PV} {bx l D:Nat} {rec:Loop} {res:aG×St} {k:Nat} {st:St} {G G':Gh} {W W':World}
   (h:BJ ns Gs w F live pi px sz ag env0 L bx l D rec res k st G W) (hi:Inv (num ns) G' W' st.mem st.sh st.aa) (he:aZ G W G' W'):BJ ns Gs w F live pi px sz ag env0 L bx l D rec res k st G' W':=by
 have hl:=(Array.getElem?_eq_some_iff.1 h.xS).1
 have hd:=(Array.getElem?_eq_some_iff.1 h.HX).1
 obtain ⟨a1,a2⟩:=he.cP l hl h.rl
 obtain ⟨b1,b2⟩:=he.cP D hd h.rd
 exact ⟨hi,h.pd.trans he,a2.trans h.xS,a1,b2.trans h.HX,b1,qp he.K h.box,h.rest⟩
theorem BJ.el {Gs:Gh} {w:World} {F:St→Option (aG×St)} {live:List Nat} {pi px sz:Nat} {ag:Bool} {env0:List (Nat×AV)} {L:List PV} {bx l D:Nat} {rec:Loop} {res:aG×St} {k:Nat} {st:St} {G:Gh} {W:World}
   (h:BJ ns Gs w F live pi px sz ag env0 L bx l D rec res k st G W) (hk:k<L.length):∃el x,L[L.length-1-k]?=some el∧po sz ag el=some x:=by
 obtain ⟨el,h1,h2⟩:=uy hk
 have hr:=h.rest
 rw [h2] at hr
 simp only [gv] at hr
 cases hx:po sz ag el with
 | none=>rw [hx] at hr;simp at hr
 | some x=>exact ⟨el,x,h1,hx⟩
def fU:aG→Exit
 | .normal=>.normal
 | .ret=>.ret
 | .exit id=>.exit id
theorem Marks.iV {n0:Nat} {G:Gh} {a:Act} {w:World} {l:Nat} {r:Loop} (h:Marks n0 G a w) (hl:w.heap[l]?=some (.loop r)) (o':Obj):Marks n0 G a (w.putObj l o'):=by
 obtain ⟨e0,Ds,e1,e2,e3⟩:=h
 refine ⟨by simpa [World.putObj] using e0,Ds,e1,e2,fun D hD=>?_⟩
 obtain ⟨f0,f1,f2,f3⟩:=e3 D hD
 refine ⟨f0,by simpa [World.putObj] using f1,f2,?_⟩
 rw [World.putObj_heap_other]
 · exact f3
 · rintro rfl;rw [hl] at f3;cases f3
def JX (ns:Names) (Gs:Gh) (w:World) (env0:List (Nat×AV)) (l D:Nat) (rec:Option Code→Loop) (res:aG×St) (W':World):Prop:=
 ∃(e:aG) (st':St) (G':Gh),e≠.normal∧res=(e,{ st' with env:=env0 })∧Inv (num ns) G' W' st'.mem st'.sh st'.aa∧aZ Gs w G' W' ∧
   W'.heap[l]?=some (.loop (rec (some (Hc e))))∧W'.heap[D]?=some (.deferred (some []))∧G'.role D=.cP
theorem BJ.round {N:Nat} {cx cy:Code} {fx fy:St→Option (aG×St)} {l:Nat}
   (hX:∀{st st':St} {e:aG} {G:Gh} {a:Act} {w:World} {Q:Exit→Act→World→Prop},fx st=some (e,st')→dM (num ns) 0 N G st a w→(∀G' a' w',dM (num ns) 0 N G' st' a' w'→aZ G w G' w'→Q (fU e) a' w')→cx.wpIn (je (some l)) 0 P Q a w)
   (hY:∀{st st':St} {e:aG} {G:Gh} {a:Act} {w:World} {Q:Exit→Act→World→Prop},fy st=some (e,st')→dM (num ns) 0 N G st a w→(∀G' a' w',dM (num ns) 0 N G' st' a' w'→aZ G w G' w'→Q (fU e) a' w')→cy.wpIn (je (some l)) 0 P Q a w)
   {Gs:Gh} {w:World} {live:List Nat} {pi px sz:Nat} {ag:Bool} {env0:List (Nat×AV)} {L:List PV} {bx D:Nat} {fn:FuncId} {a:Act} {res:aG×St} {k:Nat} {st:St} {G:Gh} {W:World}
   (henv:∀t x,look env0 t=some x→bl x=true∧∃v,a.tmps[t]?=some v∧ah (num ns) Gs x v) (hN:a.tmps.size=N) (hpi:pi<N) (hpx:px<N) (hl:w.heap.size≤l) (hD:w.heap.size≤D) (hne:l≠D)
   (h:BJ ns Gs w (andThen fx fy) live pi px sz ag env0 L bx l D (ix fn a.tmps #[pi,px] cx cy D .ready none) res k st G W) (hk:k<L.length) {el:PV} {x:AV} {v:Value} (hi:L[L.length-1-k]?=some el) (hx:po sz ag el=some x) (hv:ah (num ns) G x v) :
   YieldAt Fence.wide 0 P l #[.int .i64 ((L.length-1-k:Nat):Int),v] W fun e W'=>(e=.returned (.bool true)∧∃st' G',BJ ns Gs w (andThen fx fy) live pi px sz ag env0 L bx l D (ix fn a.tmps #[pi,px] cx cy D .ready none) res (k+1) st' G' W') ∨
     (e=.returned (.bool false)∧JX ns Gs w env0 l D (ix fn a.tmps #[pi,px] cx cy D .done) res W'):=by
 obtain ⟨el',h1,h2⟩:=uy hk
 rw [hi] at h1;cases h1
 have hr:=h.rest
 rw [h2] at hr
 simp only [gv,hx] at hr
 refine ⟨fn,(a.tmps.setIfInBounds pi (.int .i64 ((L.length-1-k:Nat):Int))).setIfInBounds px v,cx,cy,by rw [run_yield h.xS rfl];simp [ix],roundIn_of_wpIn trivial ?_⟩
 have hs0:dM (num ns) 0 N G { st with env:=bN (bN env0 pi (.pv (.int .i64 ((L.length-1-k:Nat):Int)))) px x } { tmps:=(a.tmps.setIfInBounds pi (.int .i64 ((L.length-1-k:Nat):Int))).setIfInBounds px v,defers:=[] } W:=by
   refine ⟨⟨by simp [hN],fun t y hy=>?_⟩,h.inv,Nat.zero_le _,[],rfl,by simp,by simp⟩
   by_cases e1:px=t
   · subst e1
     rw [aL] at hy;cases hy
     exact ⟨v,by simp [hN,hpx],hv⟩
   · rw [aA _ _ _ _ e1] at hy
     by_cases e2:pi=t
     · subst e2
       rw [aL] at hy;cases hy
       refine ⟨.int .i64 ((L.length-1-k:Nat):Int),?_,by simp [ah,Rel,R]⟩
       rw [Array.getElem?_setIfInBounds_ne e1];simp [hN,hpi]
     · rw [aA _ _ _ _ e2] at hy
       obtain ⟨f1,u,f2,f3⟩:=henv t y hy
       exact ⟨u,by rw [Array.getElem?_setIfInBounds_ne e1,Array.getElem?_setIfInBounds_ne e2];exact f2,eK h.pd.K h.pd.sm f1 f3⟩
 obtain ⟨G0,hs1,he1⟩:=hs0.head live
 cases hf:andThen fx fy (norm (restrict live { st with env:=bN (bN env0 pi (.pv (.int .i64 ((L.length-1-k:Nat):Int)))) px x })) with
 | none=>rw [hf] at hr;simp at hr
 | some q=>
   obtain ⟨e,st4⟩:=q
   rw [hf] at hr
   unfold andThen at hf
   cases hfx:fx (norm (restrict live { st with env:=bN (bN env0 pi (.pv (.int .i64 ((L.length-1-k:Nat):Int)))) px x })) with
   | none=>rw [hfx] at hf;simp at hf
   | some q=>
     obtain ⟨e1,st2⟩:=q
     rw [hfx] at hf
     cases e1 with
     | ret=>simp at hf
     | exit id=>simp at hf
     | normal=>
       simp only at hf
       refine hX hfx hs1 fun G2 a2 W2 hs2 he2=>?_
       have he12:=he1.trans he2
       have ll:=(Array.getElem?_eq_some_iff.1 h.xS).1
       have ld:=(Array.getElem?_eq_some_iff.1 h.HX).1
       obtain ⟨rl2,hl2⟩:=he12.cP l ll h.rl
       obtain ⟨rd2,hd2⟩:=he12.cP D ld h.rd
       rw [h.xS] at hl2
       rw [h.HX] at hd2
       have ll2:=(Array.getElem?_eq_some_iff.1 hl2).1
       have ld2:=(Array.getElem?_eq_some_iff.1 hd2).1
       refine ⟨_,run_beginRound hl2 rfl,?_⟩
       refine hY hf ⟨hs2.env,hs2.inv.iV hl2 _,hs2.marks.iV hl2 _⟩ fun G4 a4 W4 hs4 he4=>?_
       have evo3:=(h.pd.trans he12).putObj hl (.loop { ix fn a.tmps #[pi,px] cx cy D .ready none with state:=.busy })
       have evo4:=evo3.trans he4
       have sz3:(W2.putObj l (.loop { ix fn a.tmps #[pi,px] cx cy D .ready none with state:=.busy })).heap.size=W2.heap.size:=by simp [World.putObj]
       obtain ⟨rl4,hl4⟩:=he4.cP l (by rw [sz3];exact ll2) rl2
       obtain ⟨rd4,hd4⟩:=he4.cP D (by rw [sz3];exact ld2) rd2
       rw [World.putObj_heap_same ll2] at hl4
       rw [World.putObj_heap_other (Ne.symm hne),hd2] at hd4
       have ll4:=(Array.getElem?_eq_some_iff.1 hl4).1
       cases e with
       | normal=>
         refine ⟨_,_,run_endRound none hl4,.inl ⟨rfl,st4,G4,hs4.inv.iV hl4 _,evo4.putObj hl _,?_,rl4,?_,rd4,qp (aP.le_trans (aP.le_trans he12.K (aP.le_refl _)) he4.K) h.box,hr⟩⟩
         · rw [World.putObj_heap_same ll4];rfl
         · rw [World.putObj_heap_other (Ne.symm hne)];exact hd4
       | ret=>
         refine ⟨_,_,run_endRound (some .ret) hl4,.inr ⟨rfl,.ret,st4,G4,by simp,(Option.some.inj hr).symm,hs4.inv.iV hl4 _,evo4.putObj hl _,?_,?_,rd4⟩⟩
         · rw [World.putObj_heap_same ll4];rfl
         · rw [World.putObj_heap_other (Ne.symm hne)];exact hd4
       | exit id=>
         refine ⟨_,_,run_endRound (some (.exit id)) hl4,.inr ⟨rfl,.exit id,st4,G4,by simp,(Option.some.inj hr).symm,hs4.inv.iV hl4 _,evo4.putObj hl _,?_,?_,rd4⟩⟩
         · rw [World.putObj_heap_same ll4];rfl
         · rw [World.putObj_heap_other (Ne.symm hne)];exact hd4
theorem xT {orc:dh} (hB:dZ P ns) (horc:fe P ns orc) {gb sz:Nat} {ag:Bool} (hD:∀f,ns.of f=some gb→Nonempty (rL P ns f sz ag)) {N:Nat} {cx cy:Code} {fx fy:St→Option (aG×St)}
   (hX:∀{l:Nat} {st st':St} {e:aG} {G:Gh} {a:Act} {w:World} {Q:Exit→Act→World→Prop},fx st=some (e,st')→dM (num ns) 0 N G st a w→(∀G' a' w',dM (num ns) 0 N G' st' a' w'→aZ G w G' w'→Q (fU e) a' w')→cx.wpIn (je (some l)) 0 P Q a w)
   (hY:∀{l:Nat} {st st':St} {e:aG} {G:Gh} {a:Act} {w:World} {Q:Exit→Act→World→Prop},fy st=some (e,st')→dM (num ns) 0 N G st a w→(∀G' a' w',dM (num ns) 0 N G' st' a' w'→aZ G w G' w'→Q (fU e) a' w')→cy.wpIn (je (some l)) 0 P Q a w)
   {t pi px:Nat} {live:List Nat} (hpi:pi<N) (hpx:px<N) {st st':St} {e:aG} {n0:Nat} {G:Gh} {a:Act} {w:World} {Q:Exit→Act→World→Prop}
   (hev:gw (andThen fx fy) (look st.env t) gb pi px sz ag live st=some (e,st')) (hs:dM (num ns) n0 N G st a w)
   (hq:∀G' a' w',dM (num ns) n0 N G' st' a' w'→aZ G w G' w'→Q (fU e) a' w'):(Code.rangeFunc (.tmp t) #[pi,px] cx cy).wpIn Fence.wide 0 P Q a w:=by
 unfold gw at hev
 split at hev
 · rename_i g s hlook
   split at hev
   · rename_i hg
     subst hg
     split at hev
     · rename_i L hsh
       split at hev
       · rename_i hL
         obtain ⟨fv,hfv,hrel⟩:=hs.env.env t _ hlook
         simp only [ah,ae] at hrel
         obtain ⟨f,vs,hfg,rfl,ptr,r0,rfl,⟨⟨bx,nx⟩,hsm,rfl⟩,rfl⟩:=hrel
         obtain ⟨D⟩:=hD f hfg
         obtain ⟨G1,k1,k2,k3,k4,k5⟩:=Inv.kill [s] hs.inv
         obtain ⟨b',vs',e1,e2,e3⟩:=k4 s (by simp) _ hsh rfl
         rw [hsm] at e1;cases e1
         have box1:ah (num ns) G1 (.cS [.aF L]) (.pointer (some ⟨bx,0,none⟩)):=by
           simp only [ae,ah] at e3
           obtain ⟨v,r,rfl,e4,rfl⟩:=e3
           simp only [ah]
           exact ⟨bx,0,[v],rfl,e2,by simp only [cg];exact ⟨v,[],rfl,e4,rfl⟩⟩
         have henv:∀t x,look (jK live st.env) t=some x→bl x=true∧∃v,a.tmps[t]?=some v∧ah (num ns) G1 x v:=by
           intro t x hx
           have hm:=kS hx
           simp only [jK,List.mem_filter] at hm
           obtain ⟨h1,h2⟩:=dF hm.1
           obtain ⟨v,h3,h4⟩:=hs.env.env t x h1
           exact ⟨hm.2,v,h3,h4.mono k2⟩
         refine wpIn_rangeFunc ?_
         intro fn _
         obtain ⟨W1,hW1⟩:∃W1,(w.alloc (.deferred (some []))).alloc (.loop (ix fn a.tmps #[pi,px] cx cy w.heap.size .ready none))=W1:=⟨_,rfl⟩
         have s0:(w.alloc (.deferred (some []))).heap.size=w.heap.size+1:=World.size_alloc _ _
         have s1:W1.heap.size=w.heap.size+1+1:=by rw [←hW1,World.size_alloc,s0]
         have hL1:W1.heap[w.heap.size+1]?=some (.loop (ix fn a.tmps #[pi,px] cx cy w.heap.size .ready none)):=by
           rw [←hW1];have:=World.alloc_heap_new (w.alloc (.deferred (some []))) (.loop (ix fn a.tmps #[pi,px] cx cy w.heap.size .ready none));rwa [World.size_alloc] at this
         have hK1:W1.heap[w.heap.size]?=some (.deferred (some [])):=by
           rw [←hW1,RowKit.Below.heap_alloc _ _ _ (by omega)];exact World.alloc_heap_new w _
         have i1:Inv (num ns) G1 W1 st.mem (kill st.sh [s]) st.aa:=by rw [←hW1];exact (k1.oA _).oA _
         have v1:aZ G1 w G1 W1:=by rw [←hW1];exact ((aZ.refl G1 w).oA _).oA _
         have hcall:=FM hB horc D hL (bx:=bx) (l:=w.heap.size+1) (J:=fun k st2 G2 W2=>BJ ns G1 w (andThen fx fy) live pi px sz ag (jK live st.env) L bx (w.heap.size+1) w.heap.size (ix fn a.tmps #[pi,px] cx cy w.heap.size .ready none) (e,st') k st2 G2 W2)
           (Jx:=JX ns G1 w (jK live st.env) (w.heap.size+1) w.heap.size (ix fn a.tmps #[pi,px] cx cy w.heap.size .done) (e,st'))
           (fun h=>h.inv) (fun h hi he=>h.go hi he) (fun h=>h.box) (fun h hk=>h.el hk) (fun h hk hi hx hv=>h.round hX hY henv hs.env.size hpi hpx (by omega) (Nat.le_refl _) (by omega) hk hi hx hv)
           (st:={ st with sh:=kill st.sh [s] }) (G:=G1) (W:=W1) ⟨i1,v1,hL1,k1.fresh _ (by omega),hK1,k1.fresh _ (Nat.le_refl _),box1,by rw [List.drop_zero];exact hev⟩
         have hpost:CallsIn Fence.wide (0-1) P f (#[.func (.yield (w.heap.size+1)) #[] #[]]++#[.pointer (some ⟨bx,0,none⟩)]) W1 (rangePost Fence.wide 0 P (w.heap.size+1) Q { a with defers:=[{ target:=.collected w.heap.size,args:=#[] }]++a.defers }):=by
           refine CallsIn.mono hcall ?_
           have fin:∀(st2:St) (G2:Gh) (W2:World) (r:Loop),Inv (num ns) G2 W2 st2.mem st2.sh st2.aa→aZ G1 w G2 W2→W2.heap[w.heap.size+1]?=some (.loop r)→W2.heap[w.heap.size]?=some (.deferred (some []))→G2.role w.heap.size=.cP→st'={ st2 with env:=jK live st.env } →
               Q (fU e) { a with defers:=[{ target:=.collected w.heap.size,args:=#[] }]++a.defers } (W2.putObj (w.heap.size+1) (.loop { r with state:=.exhausted })):=by
             intro st2 G2 W2 r q1 q2 q3 q4 q5 q6
             have ev:=k3.trans (q2.putObj (Nat.le_succ _) (.loop { r with state:=.exhausted }))
             refine hq G2 _ _ ?_ ev
             subst q6
             refine ⟨⟨hs.env.size,fun t x hx=>?_⟩,q1.iV q3 _,?_⟩
             · obtain ⟨f1,v,f2,f3⟩:=henv t x hx
               exact ⟨v,f2,eK q2.K q2.sm f1 f3⟩
             · obtain ⟨m0,Ds,m1,m2,m3⟩:=hs.marks
               refine ⟨Nat.le_trans m0 ev.size,w.heap.size::Ds,by simp [m1],?_,?_⟩
               · rw [List.nodup_cons]
                 refine ⟨fun hm=>?_,m2⟩
                 exact absurd (m3 _ hm).2.1 (Nat.lt_irrefl _)
               · intro D hD
                 rcases List.mem_cons.1 hD with rfl | hD
                 · have hd:=(Array.getElem?_eq_some_iff.1 q4).1
                   refine ⟨m0,by simpa [World.putObj] using hd,q5,?_⟩
                   rw [World.putObj_heap_other (by omega)];exact q4
                 · obtain ⟨f0,f1,f2,f3⟩:=m3 D hD
                   obtain ⟨g1,g2⟩:=ev.cP D f1 f2
                   exact ⟨f0,Nat.lt_of_lt_of_le f1 ev.size,g1,g2.trans f3⟩
           rintro _ W' ⟨⟨v,rfl⟩,(⟨st2,G2,hJ⟩ | ⟨e2,st2,G2,hne,eO,q1,q2,q3,q4,q5⟩)⟩
           · have hr:=hJ.rest
             rw [List.drop_eq_nil_of_le (by simp)] at hr
             simp only [gv,Option.some.injEq,Prod.mk.injEq] at hr
             obtain ⟨rfl,h2⟩:=hr
             exact ⟨_,_,run_endLoop hJ.xS (by simp [ix]),fin st2 G2 W' _ hJ.inv hJ.pd hJ.xS hJ.HX hJ.rd h2.symm⟩
           · simp only [Prod.mk.injEq] at eO
             obtain ⟨rfl,h2⟩:=eO
             refine ⟨_,_,run_endLoop q3 (by simp [ix]),?_⟩
             cases e with
             | normal=>exact absurd rfl hne
             | ret=>exact wpIn_ret (fin st2 G2 W' _ q1 q2 q3 q4 q5 h2)
             | exit id=>exact wpIn_exit (fin st2 G2 W' _ q1 q2 q3 q4 q5 h2)
         have henter:(Instr.enterLoop fn a.tmps #[pi,px] cx cy Fence.wide.round).run P w=.ok (w.heap.size+1,[{ target:=.collected w.heap.size,args:=#[] }]) W1:=by rw [←hW1];exact run_enterLoop_outer _ _ _ _ _
         have eO:(resolve a.eval (rangeCall (.tmp t) (w.heap.size+1)) 0).run P W1=.ok { target:=.fn (.func f) #[.pointer (some ⟨bx,0,none⟩)],args:=#[.func (.yield (w.heap.size+1)) #[] #[]] } W1:=by
           have heval:a.eval (.tmp t)=.func (.func f) #[] #[.pointer (some ⟨bx,0,none⟩)]:=by simp [Act.eval,hfv]
           simp only [resolve,rangeCall,heval]
           simp [go_sem]
         have hinv:(invoke (.fn (.func f) #[.pointer (some ⟨bx,0,none⟩)]) #[.func (.yield (w.heap.size+1)) #[] #[]]).run P W1=.ok (.enter f (#[.func (.yield (w.heap.size+1)) #[] #[]]++#[.pointer (some ⟨bx,0,none⟩)])) W1:=by
           simp only [invoke]
           exact iN hB hfg _
         exact ⟨_,_,W1,_,W1,f,_,W1,henter,eO,fun _ _=>trivial,hinv,fun h=>absurd h (by simp [Fence.wide]),hpost⟩
       · simp at hev
     · simp at hev
   · simp at hev
 · simp at hev
end
end Go.Ab
namespace Go.Ab
open Ev
structure oB (P:Program) (ns:Names) (f sz bytes:Nat) where
 fn:Func
 A:gm
 t:TypeId
 el:TypeId
 ty:TypeId
 o0:Oper
 m:Oper
 e:Oper
 o2:Oper
 b:Oper
 m3:Oper
 ap:Oper
 A2:gm
 ag:Bool
 fi:Oper
 r0:Nat
 r1:Nat
 r2:Nat
 r3:Nat
 hf:P.funcs[f]?=some fn
 uw:fn.body=some (.seq (.region r0 #[o0] false) (.seq (.seq (.region r1 #[m,e] false) (.cond (.tmp 4) (.seq (.region r2 #[o2] false) .ret) .skip)) (.seq (.region r3 #[b,m3,ap,fi] false) .ret))):=by kernel_rfl
 eO:fn.results=#[.tmp 2]:=by kernel_rfl
 hN:fn.ntmps=8:=by kernel_rfl
 h0:o0.op=.assign (.const (.slice none 0 0))∧o0.dst=some 2∧o0.guard=none:=by refine ⟨?_,?_,?_⟩<;>kernel_rfl
 h1:m.op=.move (.tmp 0)∧m.dst=some 3∧m.guard=none:=by refine ⟨?_,?_,?_⟩<;>kernel_rfl
 h2:e.op=.binOp .eql t (.tmp 3) (.const (.slice none 0 0)) ty∧e.dst=some 4∧e.guard=none:=by refine ⟨?_,?_,?_⟩<;>kernel_rfl
 hu:P.underlying t=some (.slice el):=by kernel_rfl
 h3:o2.op=.assign (.const (.slice none 0 0))∧o2.dst=some 2∧o2.guard=none:=by refine ⟨?_,?_,?_⟩<;>kernel_rfl
 h4:aU P ns A b.dst b.op=some (.v (.cJ sz),[])∧b.dst=some 5∧b.guard=none:=by refine ⟨?_,?_,?_⟩<;>kernel_rfl
 h5:m3.op=.move (.tmp 0)∧m3.dst=some 6∧m3.guard=none:=by refine ⟨?_,?_,?_⟩<;>kernel_rfl
 h6:aU P ns A ap.dst ap.op=some (.append sz bytes,[.tmp 5,.tmp 6])∧ap.dst=some 7∧ap.guard=none:=by refine ⟨?_,?_,?_⟩<;>kernel_rfl
 h8:aU P ns A2 ap.dst ap.op=some (.dw sz bytes ag,[.tmp 5,.tmp 6]):=by kernel_rfl
 h7:fi.op=.assign (.tmp 7)∧fi.dst=some 2∧fi.guard=none:=by refine ⟨?_,?_,?_⟩<;>kernel_rfl
section
variable {P:Program} {ns:Names}
theorem hQ {F:Fence} {n:Nat} {ops:Array Oper} {Q:Exit→Act→World→Prop} {rest:List Oper} {o:Oper} {x:Operand} {a:Act} {w:World} (hF:∀f,F.fn f) (ho:o.op=.assign x) (hg:o.guard=none)
   (h:wpListIn F n P ops Q rest (a.put o.dst (a.eval x)) w):wpListIn F n P ops Q (o::rest) a w:=by
 unfold wpListIn
 have hw:Region.wanted o (yielded ops a.tmps)=true:=by simp [Region.wanted,hg]
 rw [if_pos hw]
 refine ⟨fun _ _=>hF _,?_⟩
 rw [Oper.semAt_eq _ _ _ (by intro c e;rw [ho] at e;cases e)]
 have hr:(execOp a.eval o).run P w=.ok (.value (a.eval x)) w:=by
   obtain ⟨dst,op,type,pos,after,guard⟩:=o
   simp only at ho;subst ho
   simp [execOp]
 rw [hr]
 exact h
theorem ko {G:Gh} {A:gm} {n:Nat} {ops:Array Oper} {Q:Exit→Act→World→Prop} {rest:List Oper} {o:Oper} {k:AK} {args:List Operand} {a:Act} {w:World} (hg:o.guard=none) {orc:dh} (hc:aU P ns A o.dst o.op=some (k,args)) (hk:k.calls=false)
   {vals:List AV} {out:Out} {mem:List (Nat×List AV)} {sh:Sh} {aa:al} (hkey:k.key=none) (hr:ae (num ns) G vals (args.map a.eval)) (hi:Inv (num ns) G w mem sh aa) (h:exec orc k vals none sh aa=some out)
   (hn:∀v w' G',ah (num ns) G' out.val v→Inv (num ns) G' w' mem out.sh out.aa→G.le G'→aZ G w G' w'→wpListIn Fence.wide n P ops Q rest (a.put o.dst v) w'):wpListIn Fence.wide n P ops Q (o::rest) a w:=by
 unfold wpListIn
 have hw:Region.wanted o (yielded ops a.tmps)=true:=by simp [Region.wanted,hg]
 rw [if_pos hw]
 have hdef:∀c,o.op≠.defer c:=by intro c e;rw [e] at hc;simp [aU] at hc
 refine mW (ro:=none) hdef ?_
 obtain ⟨nx,v,w',G',g1,g2,g3,g4,g5,g6⟩:=mi (orc:=orc) (mem:=mem) hc hk hr hi (by rw [hkey];exact h)
 have g4':Inv (num ns) G' w' mem out.sh out.aa:=by rw [hkey] at g4;exact g4
 unfold Oper.wp
 rw [g1]
 rcases g2 with rfl | ⟨rfl,rfl⟩
 · exact hn v w' G' g3 g4' g5 g6
 · exact hn undef w' G' g3 g4' g5 g6
theorem xU {F:Fence} {n:Nat} {ops:Array Oper} {Q:Exit→Act→World→Prop} {rest:List Oper} {o:Oper} {t el ty:TypeId} {a:Act} {w:World} {base:Option Addr} {len cap:Nat} (hF:∀f,F.fn f)
   (ho:o.op=.binOp .eql t (.tmp 3) (.const (.slice none 0 0)) ty) (hg:o.guard=none) (hu:P.underlying t=some (.slice el)) (h3:a.tmps[3]?=some (.slice base len cap))
   (h:wpListIn F n P ops Q rest (a.put o.dst (.bool base.isNone)) w):wpListIn F n P ops Q (o::rest) a w:=by
 unfold wpListIn
 have hw:Region.wanted o (yielded ops a.tmps)=true:=by simp [Region.wanted,hg]
 rw [if_pos hw]
 refine ⟨fun _ _=>hF _,?_⟩
 rw [Oper.semAt_eq _ _ _ (by intro c e;rw [ho] at e;cases e)]
 have e3:a.eval (.tmp 3)=.slice base len cap:=by simp [Act.eval,h3]
 have ec:a.eval (.const (.slice none 0 0))=.slice none 0 0:=rfl
 have he:(Op.equal t (.slice base len cap) (.slice none 0 0)).run P w=.ok base.isNone w:=by
   have h:∀d:Nat,(Op.equalIn (d+1) t (.slice base len cap) (.slice none 0 0)).run P w=.ok base.isNone w:=fun d=>by
     cases base<;>simp [Op.equalIn,run_underlying hu]
   exact h 9999
 have hr:(execOp a.eval o).run P w=.ok (.value (.bool base.isNone)) w:=by
   obtain ⟨dst,op,type,pos,after,guard⟩:=o
   simp only at ho;subst ho
   simp only [execOp,e3,ec]
   simp [eqGuard,binOp,he]
 rw [hr]
 exact h
theorem uz {f sz bytes:Nat} (D:oB P ns f sz bytes):Cn P ns f sz bytes:=by
 intro oc G w mem sh sh' aa toks' x y v hi hx hap
 refine callsIn_wide (n:=0).1 ?_
 refine callsIn_of_wp D.hf D.uw trivial ?_ rfl
 rw [D.hN]
 have hF:∀f,Fence.wide.fn f:=fun _=>trivial
 let orc:dh:={ p:=fun _ _=>none,i:=fun _ _ _ _=>none }
 have fin:∀(a:Act) (w':World) (u:Value) (G':Gh),a.defers=[]→a.tmps[2]?=some u→ah (num ns) G' y u→Inv (num ns) G' w' mem sh' toks'→G.le G'→aZ G w G' w' →
     a.defers=[]∧∃v,(results D.fn a.tmps).run P w'=.ok v w'∧∃u G',Ending.returned v=.returned u∧ah (num ns) G' y u∧Inv (num ns) G' w' mem sh' toks'∧G.le G'∧aZ G w G' w':=by
   intro a w' u G' hd h2 r1 r2 r3 r4
   refine ⟨hd,u,?_,u,G',rfl,r1,r2,r3,r4⟩
   simp [results,D.eO,h2]
 obtain ⟨els,hels⟩:∃els,bF x=some els:=by
   cases hq:bF x with
   | none=>cases oc<;>simp [ia,aS,hq] at hap
   | some els=>exact ⟨els,rfl⟩
 obtain ⟨base,cap,rfl⟩:=eI hels hx
 refine wpIn_seq (wpIn_region_list ?_)
 refine hQ hF D.h0.1 D.h0.2.2 ?_
 rw [D.h0.2.1]
 simp only [wpListIn]
 refine wpIn_seq (wpIn_seq (wpIn_region_list ?_))
 refine lP hF D.h1.1 D.h1.2.2 ?_
 rw [D.h1.2.1]
 refine xU (base:=base) (len:=els.length) (cap:=cap) hF D.h2.1 D.h2.2.2 D.hu (by simp [Act.put,Act.eval]) ?_
 rw [D.h2.2.1]
 simp only [wpListIn]
 cases base with
 | none=>
   refine wpIn_cond_true (by simp [Act.put,Act.eval]) ?_
   refine wpIn_seq (wpIn_region_list ?_)
   refine hQ hF D.h3.1 D.h3.2.2 ?_
   rw [D.h3.2.1]
   simp only [wpListIn]
   refine wpIn_ret ?_
   have hn:els=[]:=by
     have:=cE hels hx
     obtain ⟨b,l,c,e,_,e2⟩:=a7.1 this
     cases e
     rcases e2.2 with h | ⟨_,_,_,h,_⟩
     · exact h
     · cases h
   subst hn
   obtain ⟨rfl,rfl,rfl⟩:AV.cz []=y∧sh=sh'∧aa=toks':=by
     cases oc with
     | none=>simpa [ia,aS,hels,aQ] using hap
     | some ag=>simpa [ia,nm,hels,aQ] using hap
   exact fin _ _ (.slice none 0 0) G (by simp [Act.put]) (by simp [Act.put,Act.eval]) (by simp only [ah];exact ⟨none,0,rfl,rfl,.inl rfl⟩) hi G.le_refl (aZ.refl G w)
 | some ad=>
   refine wpIn_cond_false (by simp [Act.put,Act.eval]) (wpIn_skip ?_)
   refine wpIn_seq (wpIn_region_list ?_)
   refine ko (orc:=orc) (out:=⟨.cz [],none,sh,aa⟩) D.h4.2.2 D.h4.1 rfl rfl (vals:=[]) (by simp [ae]) hi (by rfl) fun v1 w1 G1 q1 q2 q3 q4=>?_
   rw [D.h4.2.1]
   refine lP hF D.h5.1 D.h5.2.2 ?_
   rw [D.h5.2.1]
   cases oc with
   | none=>
     simp only [ia,Option.map_eq_some_iff,Prod.mk.injEq] at hap
     obtain ⟨⟨y',ts'⟩,hap,rfl,rfl,rfl⟩:=hap
     refine ko (orc:=orc) (out:=⟨y',none,sh,ts'⟩) D.h6.2.2 D.h6.1 rfl rfl (vals:=[.cz [],x]) (mem:=mem) (sh:=sh) (aa:=aa) ?_ q2 (by simp only [exec,hap,Option.map_some]) fun v2 w2 G2 p1 p2 p3 p4=>?_
     · simp only [List.map_cons,List.map_nil,ae]
       refine ⟨_,_,rfl,?_,_,_,rfl,?_,rfl⟩
       · simpa [Act.put,Act.eval] using q1
       · simpa [Act.put,Act.eval] using hx.mono q3
     rw [D.h6.2.1]
     refine hQ hF D.h7.1 D.h7.2.2 ?_
     rw [D.h7.2.1]
     simp only [wpListIn]
     refine wpIn_ret ?_
     exact fin _ _ v2 G2 (by simp [Act.put]) (by simp [Act.put,Act.eval]) p1 p2 (Gh.le_trans q3 p3) (q4.trans p4)
   | some ag=>
     simp only [ia,hels] at hap
     rw [Option.ite_none_right_eq_some] at hap
     obtain ⟨hhd,hap⟩:=hap
     simp only [Option.map_eq_some_iff,Prod.mk.injEq] at hap
     obtain ⟨⟨y',sh1⟩,hap,rfl,rfl,rfl⟩:=hap
     obtain ⟨y2,hap2,hsame⟩:∃y2,nm sz bytes D.ag (.cz []) els sh=some (y2,sh1)∧∀G' u,ah (num ns) G' y2 u→ah (num ns) G' y' u:=by
       unfold nm at hap ⊢
       split at hap
       · rename_i h0
         rw [if_pos h0]
         cases hap
         exact ⟨_,rfl,fun _ _ h=>h⟩
       · rename_i h0
         rw [if_neg h0]
         simp only [Option.ite_none_right_eq_some,Option.some.injEq,Prod.mk.injEq] at hap
         obtain ⟨h1,rfl,rfl⟩:=hap
         rw [if_pos h1]
         exact ⟨_,rfl,fun _ _ h=>by simpa only [ah] using h⟩
     refine ko (orc:=orc) (out:=⟨y2,none,sh1,aa⟩) D.h6.2.2 D.h8 rfl rfl (vals:=[.cz [],x]) (mem:=mem) (sh:=sh) (aa:=aa) ?_ q2 (by simp only [exec,hels,hhd,if_true,pj,hap2,Option.map_some]) fun v2 w2 G2 p1 p2 p3 p4=>?_
     · simp only [List.map_cons,List.map_nil,ae]
       refine ⟨_,_,rfl,?_,_,_,rfl,?_,rfl⟩
       · simpa [Act.put,Act.eval] using q1
       · simpa [Act.put,Act.eval] using hx.mono q3
     rw [D.h6.2.1]
     refine hQ hF D.h7.1 D.h7.2.2 ?_
     rw [D.h7.2.1]
     simp only [wpListIn]
     refine wpIn_ret ?_
     exact fin _ _ v2 G2 (by simp [Act.put]) (by simp [Act.put,Act.eval]) (hsame _ _ p1) p2 (Gh.le_trans q3 p3) (q4.trans p4)
end
end Go.Ab
namespace Go.Ab
section
variable {P:Program} {ns:Names} {G:Gh} {w:World}
theorem rM {c c':Array Value} {e:TypeId}:(w.alloc (.cells c e)).setRow w.heap.size c'=w.alloc (.cells c' e):=by
 simp only [World.setRow,World.alloc]
 congr 1
 apply Array.ext (by simp)
 intro i h1 h2
 simp [Array.getElem_modify,Array.getElem_push]
 split
 · rename_i h;subst h;simp
 · rename_i h
   have:i<w.heap.size:=by simp at h2;omega
   simp [this]
theorem setRow_setRow {b:Nat} {c c':Array Value}:(w.setRow b c).setRow b c'=w.setRow b c':=by
 simp only [World.setRow]
 congr 1
 apply Array.ext (by simp)
 intro i h1 h2
 simp only [Array.getElem_modify]
 split
 · rename_i h;subst h
   cases w.heap[b]'(by simpa using h2)<;>rfl
 · rfl
theorem uA {b b':Nat} {c c':Array Value} (h:b≠b'):(w.setRow b c).setRow b' c'=(w.setRow b' c').setRow b c:=by
 simp only [World.setRow]
 congr 1
 apply Array.ext (by simp)
 intro i h1 h2
 simp only [Array.getElem_modify]
 by_cases e:b=i
 · subst e
   have:¬b'=b:=fun q=>h q.symm
   simp [this]
 · simp [e]
theorem xW {argTypes:Array TypeId} {type t e e1 t1 sz by_:Nat} {z:List PV} {s y:AV} {vs vz:Value} {mem:List (Nat×List AV)} {sh:Sh} {aa toks':al} {q p:PV} {xs:List Value}
   (h0:argTypes[0]?=some t) (h1:argTypes[1]?=some t1)
   (hu:P.underlying t=some (.slice e)) (hu1:P.underlying t1=some (.slice e1)) (hsz:bw P e=some sz) (hby:cN P e=some by_) (hz:bn P e=some z) (hzl:z.length=sz) (hb0:0<by_)
   (hs:ah (num ns) G s vs) (hq:Rel G.K (.aF [q]) vz) (hq1:aQ sz [q]=true) (hp:R G.K true p xs) (hp1:(aH p).length=sz) (hi:Inv (num ns) G w mem sh aa)
   (h:aS sz by_ s (.cz [p]) aa=some (y,toks')) :
   ∃b o len cap c ty w1 base0 cap0,vs=.slice base0 len cap0∧(Builtin.append_ argTypes type #[vs,vz]).run P w=.ok (.slice (some ⟨b,o,none⟩) (len+1) cap) w1 ∧
     w1.heap[b]?=some (.cells c ty (0,0))∧o+len*sz+sz≤c.size∧(∀k,k<w.heap.size→(∀τ,G.role k≠.tok τ)→k≠b∧w1.heap[k]?=w.heap[k]?) ∧
     ∃G',ah (num ns) G' y (.slice (some ⟨b,o,none⟩) (len+1) cap)∧Inv (num ns) G' (w1.setRow b (c.toList.take (o+len*sz)++xs++c.toList.drop (o+len*sz+xs.length)).toArray) mem sh toks' ∧
       G.le G'∧aZ G w G' (w1.setRow b (c.toList.take (o+len*sz)++xs++c.toList.drop (o+len*sz+xs.length)).toArray):=by
 have hxl:xs.length=sz:=by rw [hp.length,hp1]
 have hhp:aQ sz [p]=true:=by simp [aQ,hp1]
 unfold aS at h
 simp only [bF] at h
 rw [if_pos hhp] at h
 have hvz:∃xb xc,vz=.slice xb 1 xc:=by
   obtain ⟨b,l,c,rfl,_,hl,_⟩:=a7.1 hq
   exact ⟨b,c,by rw [←hl];rfl⟩
 obtain ⟨xb,xc,rfl⟩:=hvz
 have known':∀w',w'=w.drew→∀b o u,G.K b o=some u→w'.cell? ⟨b,o,none⟩=some u:=fun w' e b o u hk=>by subst e;exact hi.known b o u hk
 obtain ⟨new,n1,n2,n3,n4⟩:=dk (P:=P) (n:=1) hi.known hq hq1 rfl
 have n2':new.length=sz:=by omega
 have n1':∀w',w'=w.drew→(Builtin.firstCells sz 1 (.slice xb 1 xc)).run P w'=.ok new.toArray w':=by
   intro w' e
   subst e
   obtain ⟨base,len,cap,e1,_,hlen,hrow'⟩:=a7.1 hq
   cases e1
   obtain ⟨b,o,sz',e2,hrow⟩:=hrow'.resolve_left (by simp)
   cases e2
   have:=hrow.sz hq1 (by simp)
   subst this
   obtain ⟨vss,g1,g2,_,_⟩:=hrow.flat
   have l1:=run_loadCells_list (P:=P) w ⟨b,o,none⟩ vss (fun j u hj=>by rw [Addr.cm];exact hi.known _ _ _ (g2 j u hj))
   have l2:=run_loadCells_list (P:=P) w.drew ⟨b,o,none⟩ vss (fun j u hj=>by rw [Addr.cm];exact hi.known _ _ _ (g2 j u hj))
   rw [g1] at l1 l2
   simp only [List.length_cons,List.length_nil,Nat.zero_add] at l1 l2
   simp only [Builtin.firstCells] at n1 ⊢
   rw [l1] at n1
   simp at n1
   rw [l2,n1]
 have hrows:∀(K':aP) (b' o':Nat),G.K.le K'→At K' b' o' xs→Row K' b' o' sz [p]:=by
   intro K' b' o' hle ha
   simp only [Row,and_true]
   exact ⟨xs,hxl,ha,R.mono hle _ _ _ hp⟩
 have grows:∀(l:List PV) (base:Option Addr) (cap τ:Nat),Rel G.K (.aF l) (.slice base l.length cap)→aQ sz l=true→cap<l.length+1→(l.length+1)*by_≤140737488355328 →
     ic G aa toks' τ (l.length+1)→(∀t0,G.tk τ=some t0→¬t0.dead∧t0.cap<l.length+1)→y=.own (l++[p]) τ→vs=.slice base l.length cap →
     ∃b o len cap c ty w1 base0 cap0,vs=.slice base0 len cap0∧(Builtin.append_ argTypes type #[vs,.slice xb 1 xc]).run P w=.ok (.slice (some ⟨b,o,none⟩) (len+1) cap) w1 ∧
     w1.heap[b]?=some (.cells c ty (0,0))∧o+len*sz+sz≤c.size∧(∀k,k<w.heap.size→(∀τ,G.role k≠.tok τ)→k≠b∧w1.heap[k]?=w.heap[k]?) ∧
     ∃G',ah (num ns) G' y (.slice (some ⟨b,o,none⟩) (len+1) cap)∧Inv (num ns) G' (w1.setRow b (c.toList.take (o+len*sz)++xs++c.toList.drop (o+len*sz+xs.length)).toArray) mem sh toks' ∧
       G.le G'∧aZ G w G' (w1.setRow b (c.toList.take (o+len*sz)++xs++c.toList.drop (o+len*sz+xs.length)).toArray):=by
   intro l base cap τ hrl hhl hfit hbytes hup hg hy hvs
   subst hvs
   obtain ⟨aB,o1,o2,o3,o4⟩:=dk (P:=P) (w:=w.drew) (known' _ rfl) hrl hhl rfl
   obtain ⟨rest,newCap,p1,p2,p3⟩:=eV (type:=type) (aB:=aB.toArray) (new:=new.toArray) h0 h1 hu hu1 hsz hby hz hzl (base:=base) (len:=l.length) (cap:=cap) (n:=1) (xb:=xb) (xc:=xc) rfl
     (fun w' e=>by subst e;exact o1) n1' hfit hb0 hbytes
   obtain ⟨G',q1,q2,q3,q4⟩:=pY (ns:=ns) (w:=w.drew) (new:=xs) (xs:=[p]) hi.drew e o2 (by simp [hxl]) o3 hrows p1 p2 (by simp) hup hg
   have hw:(w.drew.alloc (.cells (aB.toArray++new.toArray++rest) e)).setRow w.heap.size ((aB.toArray++new.toArray++rest).toList.take (0+l.length*sz)++xs++(aB.toArray++new.toArray++rest).toList.drop (0+l.length*sz+xs.length)).toArray =
       w.drew.alloc (.cells (aB.toArray++xs.toArray++rest) e):=by
     have hsz':w.heap.size=w.drew.heap.size:=rfl
     rw [hsz',rM]
     congr 2
     apply Array.ext'
     simp only [Array.toList_append,List.toList_toArray,Nat.zero_add,List.append_assoc]
     rw [←o2,List.take_left,hxl,←n2',←List.drop_drop,List.drop_left,List.drop_left]
   refine ⟨w.heap.size,0,l.length,newCap,aB.toArray++new.toArray++rest,e,_,base,cap,rfl,p3,?_,?_,?_,G',?_⟩
   · exact heap_alloc_new (w:=w.drew)
   · simp [o2,n2']
   · intro k hk _
     exact ⟨by omega,aR (w:=w.drew) hk⟩
   · rw [hw,hy]
     exact ⟨q1,q2,q3,(aZ.drew G w).trans q4⟩
 split at h
 · -- a slice without room to spare
   rename_i l
   rw [if_neg (by simp)] at h
   simp only [Option.ite_none_right_eq_some,Option.some.injEq,Prod.mk.injEq] at h
   obtain ⟨⟨hhl,hbytes⟩,rfl,rfl⟩:=h
   simp only [ah] at hs
   obtain ⟨base,len,rfl,hsl⟩:=hs
   have hlen:=hsl.1
   subst hlen
   have hlen2:(l++[p]).length=l.length+1:=by simp
   have hup:ic G aa (aa++[(l++[p]).length]) aa.length (l.length+1):=by
     rw [hlen2];exact nE hi (l.length+1)
   have htk:G.tk aa.length=none:=by
     cases hh:G.tk aa.length with
     | none=>rfl
     | some t0=>have:=hi.dD _ t0 hh;rw [List.getElem?_eq_none (Nat.le_refl _)] at this;simp at this
   exact grows l base l.length aa.length (a7.2 ⟨_,_,_,rfl,Nat.le_refl _,hsl⟩) hhl (by omega) (by simpa using hbytes) hup (fun t0 h=>by rw [htk] at h;cases h) rfl rfl
 · -- a slice that has its room to spare to itself
   rename_i l τ
   simp only [Option.ite_none_right_eq_some,Option.some.injEq,Prod.mk.injEq] at h
   obtain ⟨⟨htok,hhl,hbytes⟩,rfl,rfl⟩:=h
   simp only [ah] at hs
   obtain ⟨tk,e1,e2,e3,e4⟩:=hs
   have hlen:l.length=tk.len:=by
     have:=hi.dD τ tk e1
     rw [htok] at this;simpa using this
   obtain ⟨hv,hrow⟩:=e4 hlen
   obtain ⟨tk',f1,f2,f3⟩:=hi.bT τ _ htok
   rw [e1] at f1;cases f1
   have hlen2:(l++[p]).length=l.length+1:=by simp
   obtain ⟨base,tlen,cap,tsz,town⟩:=tk
   simp only [Tk.val] at hv hlen f2 f3
   subst hv
   subst hlen
   have hup:ic G aa (aa.set τ (l++[p]).length) τ (l.length+1):=by
     rw [hlen2]
     have hlt:=(List.getElem?_eq_some_iff.1 htok).1
     refine ⟨by rw [List.getElem?_set];simp [hlt],fun σ hσ=>by rw [List.getElem?_set,if_neg (Ne.symm hσ)],fun t0 h=>?_⟩
     rw [e1] at h;cases h;simp
   rcases Nat.lt_or_ge cap (l.length+1) with hfit | hfit
   · refine grows l base cap τ e3 hhl hfit (by simpa using hbytes) hup (fun t0 h=>?_) rfl rfl
     rw [e1] at h;cases h
     refine ⟨?_,hfit⟩
     rintro ⟨d1,d2⟩
     rcases hrow with rfl | ⟨b,o,e,_⟩
     · simp at d2
     · rw [d1] at e;cases e
   · have hl0:l≠[]:=by
       rintro rfl
       have:=f3.zero rfl
       simp at this hfit
       omega
     obtain ⟨b,o,hbase,hrow⟩:=hrow.resolve_left hl0
     simp only at hbase;subst hbase
     have:=hrow.sz hhl hl0
     subst this
     obtain ⟨b',o',c,ty,p1,p2,p3,p4,p5⟩:=f3.spare (.inl (by simp;omega))
     simp only [Option.some.injEq,Addr.mk.injEq] at p1
     obtain ⟨rfl,rfl,_⟩:=p1
     simp only at p4 p5
     have hmul:(l.length+1)*sz≤cap*sz:=Nat.mul_le_mul_right _ hfit
     rw [Nat.add_mul] at hmul
     have lE:=run_storeCells_at (P:=P) b (o+l.length*sz) ty new 0 c w p3 (by rw [n2];omega) n4
     have hrun:=db (type:=type) h0 h1 hu hu1 hsz (base:=some ⟨b,o,none⟩) (len:=l.length) (cap:=cap) (n:=1) (xb:=xb) (xc:=xc) rfl n1 hfit
     simp only [Nat.add_zero] at lE
     obtain ⟨g1,g2,g3⟩:=hi.fill (t:=⟨some ⟨b,o,none⟩,l.length,cap,sz,town⟩) (n:=1) (l:=xs) e1 rfl p2 p3 p4 p5 (by simp [hxl]) (by omega) hfit rfl hup
     have hcsz:c.toList.length=c.size:=by simp
     have hw:(w.setRow b (c.toList.take (o+l.length*sz)++new++c.toList.drop (o+l.length*sz+new.length)).toArray).setRow b ((c.toList.take (o+l.length*sz)++new++c.toList.drop (o+l.length*sz+new.length)).toArray.toList.take (o+l.length*sz)++xs++(c.toList.take (o+l.length*sz)++new++c.toList.drop (o+l.length*sz+new.length)).toArray.toList.drop (o+l.length*sz+xs.length)).toArray =
         w.setRow b (c.toList.take (o+l.length*sz)++xs++c.toList.drop (o+l.length*sz+xs.length)).toArray:=by
       rw [setRow_setRow]
       congr 2
       have ht:(c.toList.take (o+l.length*sz)).length=o+l.length*sz:=by rw [List.length_take];omega
       simp only [List.toList_toArray,List.append_assoc]
       rw [List.take_append_of_le_length (by omega),List.take_of_length_le (by omega)]
       congr 2
       rw [List.drop_append,List.drop_of_length_le (by omega),List.nil_append,ht,Nat.add_sub_cancel_left,hxl,←n2',List.drop_left]
     refine ⟨b,o,l.length,cap,(c.toList.take (o+l.length*sz)++new++c.toList.drop (o+l.length*sz+new.length)).toArray,ty,w.setRow b (c.toList.take (o+l.length*sz)++new++c.toList.drop (o+l.length*sz+new.length)).toArray,some ⟨b,o,none⟩,cap,rfl,?_,setRow_heap _ _ _ _ _ _ p3,?_,?_,G.a0 τ { (⟨some ⟨b,o,none⟩,l.length,cap,sz,town⟩:Tk) with len:=l.length+1,own:=true } G.role (eU G b (o+l.length*sz) xs),?_⟩
     · refine Eq.trans hrun ?_
       simp only [Addr.cm,lE,Result.andThen_ok]
     · simp
       omega
     · intro k hk hr
       have hne:k≠b:=by rintro rfl;exact hr τ p2
       exact ⟨hne,(fc.setRow (G:=G) (w:=w) b _).other k hne⟩
     · rw [hw]
       refine ⟨?_,g1,g2,g3⟩
       have hat:At (eU G b (o+l.length*sz) xs) b (o+l.length*sz) xs:=by
         intro j v hj
         have hlt:=(List.getElem?_eq_some_iff.1 hj).1
         simp only [eU]
         rw [if_pos ⟨trivial,by omega,by omega⟩,Nat.add_sub_cancel_left]
         exact hj
       have hrow':Row (eU G b (o+l.length*sz) xs) b o sz (l++[p]):=Row.append (Row.mono g2.K _ _ _ _ hrow) (hrows _ _ _ g2.K hat)
       simp only [ah]
       exact ⟨⟨some ⟨b,o,none⟩,l.length+1,cap,sz,true⟩,by simp [Gh.a0],⟨by simp,Tk.kF _⟩,a7.2 ⟨_,_,_,rfl,hfit,by simp,.inr ⟨_,_,_,rfl,hrow'⟩⟩,fun _=>⟨rfl,.inr ⟨_,_,rfl,hrow'⟩⟩⟩
 · simp at h
end
theorem fm {α:Type} {d:Nat}:∀{l:List (Nat×α)} {t:Nat},look (jg d l) t=if t=d then none else look l t
 | [],t=>by simp [jg,look]
 | (k,v)::r,t=>by
   simp only [jg]
   by_cases hk:k=d
   · rw [if_pos hk,fm]
     by_cases ht:t=d
     · rw [if_pos ht,if_pos ht]
     · rw [if_neg ht,if_neg ht]
       simp only [look]
       rw [if_neg (by rintro rfl;exact ht hk)]
   · rw [if_neg hk]
     simp only [look]
     by_cases hkt:k=t
     · subst hkt;rw [if_pos rfl,if_neg hk,if_pos rfl]
     · rw [if_neg hkt,if_neg hkt,fm]
theorem qq {o:cr} {d a sz:Nat} {ag:Bool} (h:yp o=some (d,a,sz,ag)):o=⟨some d,none,[.t a],.dt sz ag⟩:=by
 obtain ⟨o1,o2,o3,o4⟩:=o
 unfold yp at h;split at h
 · simp at h;simp_all
 · cases h
theorem DT {o:cr} {d a:Nat} (h:Gu o=some (d,a)):o=⟨some d,none,[.t a],.v .len⟩:=by
 obtain ⟨o1,o2,o3,o4⟩:=o
 unfold Gu at h;split at h
 · simp at h;simp_all
 · cases h
theorem FN {o:cr} {d sz:Nat} {zs:List PV} (h:IL o=some (d,zs,sz)):o=⟨some d,none,[.c (.pv (.agg zs))],.v (.cJ sz)⟩:=by
 obtain ⟨o1,o2,o3,o4⟩:=o
 unfold IL at h;split at h
 · simp at h;simp_all
 · cases h
theorem DU {o:cr} {d s z sz by_:Nat} (h:Gv o=some (d,s,z,sz,by_)):o=⟨some d,none,[.t s,.t z],.append sz by_⟩:=by
 obtain ⟨o1,o2,o3,o4⟩:=o
 unfold Gv at h;split at h
 · simp at h;simp_all
 · cases h
theorem FO {o:cr} {c v sz:Nat} (h:IM o=some (c,v,sz)):o=⟨none,none,[.t c,.t v],.df sz⟩:=by
 obtain ⟨o1,o2,o3,o4⟩:=o
 unfold IM at h;split at h
 · simp at h;simp_all
 · cases h
theorem DV {o:Oper} {p t v l:Nat} (h:Gw o=some (p,t,v,l)):o.op=.indexAddr t (.tmp v) (.tmp l)∧o.dst=some p∧o.guard=none:=by
 unfold Gw at h;split at h
 · simp at h;simp_all
 · cases h
theorem DW {o:Oper} {t p x:Nat} (h:Gx o=some (t,p,x)):o.op=.store t (.tmp p) (.tmp x)∧o.dst=none∧o.guard=none:=by
 unfold Gx at h;split at h
 · simp at h;simp_all
 · cases h
section
variable {n0:Nat} {P:Program} {ns:Names} {ro:Option Nat} {n:Nat}
theorem BS {pre suf:Array Oper} {listed:Array Bool} (hl:listed.size=pre.size) (hs:∀o∈suf,∀i,i<pre.size→∃e∈o.after,Region.binds .any e=true∧e.on=i) {u:Nat} (hu:listed[u]?=some false) {i:Nat}
   (hi:i∈Region.ready .any (pre++suf) (listed++Array.replicate suf.size false)):i<pre.size∧i∈Region.ready .any pre listed:=by
 obtain ⟨h1,o,ho,h2⟩:=mem_ready.1 hi
 have hul:u<listed.size:=(Array.getElem?_eq_some_iff.1 hu).1
 have hlt:i<pre.size:=by
   rcases Nat.lt_or_ge i pre.size with h | h
   · exact h
   · exfalso
     rw [Array.getElem?_append_right h] at ho
     obtain ⟨e,e1,e2,e3⟩:=hs o (Array.mem_of_getElem? ho) u (by omega)
     have:=h2 e e1 e2
     rw [e3] at this
     simp [Array.getElem?_append_left hul,hu] at this
 refine ⟨hlt,mem_ready.2 ⟨?_,o,?_,fun e he hb=>?_⟩⟩
 · have:i<listed.size:=by omega
   simpa [Array.getElem?_append_left this] using h1
 · rwa [Array.getElem?_append_left hlt] at ho
 · have:=h2 e he hb
   rcases Nat.lt_or_ge e.on listed.size with h | h
   · simpa [Array.getElem?_append_left h] using this
   · exfalso
     rw [Array.getD_eq_getD_getElem?,Array.getElem?_append_right h,Array.getElem?_replicate] at this
     split at this<;>simp at this
theorem xX {pre:Array Oper} {listed:Array Bool} (hl:listed.size=pre.size) (hd:dV 0 pre.toList=true):∀u:Nat,listed[u]?=some false→∃i,i∈Region.ready .any pre listed:=by
 intro u
 induction u using Nat.strongRecOn with
 | _ u ih=>
   intro hu
   have hul:u<listed.size:=(Array.getElem?_eq_some_iff.1 hu).1
   by_cases h:∃j,j<u∧listed[j]?=some false
   · obtain ⟨j,hj,hf⟩:=h
     exact ih j hj hf
   · refine ⟨u,mem_ready.2 ⟨by simp [hu],pre[u]'(by omega),Array.getElem?_eq_getElem (by omega),fun e he hb=>?_⟩⟩
     have hlt:=dT _ 0 hd u (pre[u]'(by omega)) (by simp [←hl,hul]) e he hb
     simp only [Nat.zero_add] at hlt
     have:e.on<listed.size:=by omega
     cases hv:listed[e.on] with
     | true=>simp [this,hv]
     | false=>exact absurd ⟨e.on,hlt,by simp [this,hv]⟩ h
theorem oC {l:List Bool} {i:Nat} (h:l[i]?=some false):(l.set i true).count false+1=l.count false:=by
 have hlt:=(List.getElem?_eq_some_iff.1 h).1
 have hv:=(List.getElem?_eq_some_iff.1 h).2
 rw [List.count_set hlt]
 have hm:0<l.count false:=List.count_pos_iff.2 (List.mem_of_getElem? h)
 simp [hv]
 omega
theorem oD (hB:dZ P ns) {orc:dh} (horc:fe P ns orc) {A:gm} {N:Nat} {pre suf:Array Oper} {as:List cr} (hc:bB (bH P ns A N pre) pre.toList=some as) (hg:∀o∈pre,o.guard=none)
   (hd:dV 0 pre.toList=true) (hs':∀o∈suf,∀i,i<pre.size→∃e∈o.after,Region.binds .any e=true∧e.on=i) {F:Nat→Option AV} {R:St→Prop} {Q:Exit→Act→World→Prop} :
   ∀{fuel:Nat} {listed:Array Bool} {st:St} {G:Gh} {a:Act} {w:World},listed.size=pre.size→listed.toList.count false=fuel→dM (num ns) n0 N G st a w→pG orc pre as F R fuel listed st →
     (∀st' G' a' w',R st'→dM (num ns) n0 N G' st' a' w'→aZ G w G' w'→wpAnyIn (je ro) n P .any (pre++suf) Q suf.size (Array.replicate pre.size true++Array.replicate suf.size false) a' w') →
     wpAnyIn (je ro) n P .any (pre++suf) Q (fuel+suf.size) (listed++Array.replicate suf.size false) a w
 | 0,listed,st,G,a,w,hl,hcn,hs,h,hq=>by
   have:listed=Array.replicate pre.size true:=by
     apply Array.ext (by simp [hl])
     intro i h1 h2
     simp
     have:false∉listed.toList:=List.count_eq_zero.1 hcn
     cases hv:listed[i] with
     | true=>rfl
     | false=>exact absurd (by rw [←hv];simp) this
   rw [this,Nat.zero_add]
   exact hq st G a w h.2 hs (aZ.refl G w)
 | fuel+1,listed,st,G,a,w,hl,hcn,hs,h,hq=>by
   have hmem:false∈listed.toList:=List.count_pos_iff.1 (by omega)
   obtain ⟨u,hu⟩:=List.getElem?_of_mem hmem
   have hu:listed[u]?=some false:=by simpa using hu
   rw [show fuel+1+suf.size=(fuel+suf.size)+1 from by omega]
   refine ⟨fun h0=>?_,fun i hi=>?_⟩
   · exfalso
     obtain ⟨i,hi⟩:=xX hl hd u hu
     obtain ⟨h1,o,ho,h2⟩:=mem_ready.1 hi
     have hip:i<pre.size:=(Array.getElem?_eq_some_iff.1 ho).1
     have:i∈Region.ready .any (pre++suf) (listed++Array.replicate suf.size false):=by
       refine mem_ready.2 ⟨?_,o,by rw [Array.getElem?_append_left hip];exact ho,fun e he hb=>?_⟩
       · have:i<listed.size:=by omega
         simpa [Array.getElem?_append_left this] using h1
       · have h3:=h2 e he hb
         have h4:=dT _ 0 hd i o (by simpa using ho) e he hb
         have:e.on<listed.size:=by omega
         simpa [Array.getElem?_append_left this] using h3
     rw [h0] at this
     cases this
   · obtain ⟨hip,hi'⟩:=BS hl hs' hu hi
     obtain ⟨ao,st',h1,_,h2,h3⟩:=h.2 i hi'
     obtain ⟨hf,o,ho,_⟩:=mem_ready.1 hi'
     have hfalse:listed[i]?=some false:=by
       have:i<listed.size:=by omega
       simpa [this] using hf
     have hco:bH P ns A N pre o=some ao:=by
       obtain ⟨y,g1,g2⟩:=gB hc (i:=i) (x:=o) (by simpa using ho)
       rw [h1] at g1;cases g1;exact g2
     have hgo:=hg o (Array.mem_of_getElem? ho)
     have key:=mX (ro:=ro) (n:=n) (Q:=Q) hB horc hco hs h2 (next:=wpAnyIn (je ro) n P .any (pre++suf) Q (fuel+suf.size) ((listed++Array.replicate suf.size false).setIfInBounds i true)) (fun G' v w' hs1 he1=>by
       have e1:(listed++Array.replicate suf.size false).setIfInBounds i true=listed.setIfInBounds i true++Array.replicate suf.size false:=by
         rw [Array.setIfInBounds_append_left (by omega)]
       rw [e1]
       refine oD hB horc hc hg hd hs' (by simpa using hl) ?_ hs1 h3 (fun st'' G'' a'' w'' hr hs'' he'=>hq st'' G'' a'' w'' hr hs'' (he1.trans he'))
       have:=oC (l:=listed.toList) (i:=i) (by simpa using hfalse)
       simp only [Array.toList_setIfInBounds]
       omega)
     unfold wpOpIn
     rw [Array.getElem?_append_left hip,ho]
     have hw:∀f,Region.wanted o f=true:=fun f=>by simp [Region.wanted,hgo]
     rw [hw,if_pos rfl] at key
     simp only [hw,if_true]
     exact key
theorem iW {ops:Array Oper} {Q:Exit→Act→World→Prop} {K:Act→World→Prop} {i:Nat} {o:Oper} {a:Act} {w w':World} {V:Value} (hi:ops[i]?=some o) (hg:o.guard=none) (hd:∀c,o.op≠.defer c)
   (hr:(execOp a.eval o).run P w=.ok (.value V) w') (hK:K (a.put o.dst V) w'):wpOpIn (je ro) n P ops Q i K a w:=by
 unfold wpOpIn
 simp only [hi]
 have hw:∀f,Region.wanted o f=true:=fun f=>by simp [Region.wanted,hg]
 rw [hw,if_pos rfl]
 refine mW hd ?_
 unfold Oper.wp
 rw [hr]
 exact hK
theorem eL {ops:Array Oper} {Q:Exit→Act→World→Prop} {K:Act→World→Prop} {i:Nat} {o:Oper} {a:Act} {w w':World} (hi:ops[i]?=some o) (hg:o.guard=none) (hd:∀c,o.op≠.defer c) (hn:o.dst=none)
   (hr:(execOp a.eval o).run P w=.ok .skip w') (hK:K a w'):wpOpIn (je ro) n P ops Q i K a w:=by
 unfold wpOpIn
 simp only [hi]
 have hw:∀f,Region.wanted o f=true:=fun f=>by simp [Region.wanted,hg]
 rw [hw,if_pos rfl]
 refine mW hd ?_
 unfold Oper.wp
 rw [hr]
 show K (a.put o.dst undef) w'
 rw [hn]
 exact hK
theorem qt {o:Oper} {t p x sz:Nat} (ho:o.op=.store t (.tmp p) (.tmp x)) (hsz:bw P t=some sz) {a:Act} {w:World} {b off:Nat} {X:Value} {c:Array Value} {ty:TypeId} (hp:a.tmps[p]?=some (.pointer (some ⟨b,off,none⟩))) (hx:a.tmps[x]?=some X)
   (hcs:X.cells.size=sz) (hh:w.heap[b]?=some (.cells c ty (0,0))) (hl:off+sz≤c.size) (h1:∀u∈X.cells.toList,u.oneCell'=true) :
   (execOp a.eval o).run P w=.ok .skip (w.setRow b (c.toList.take off++X.cells.toList++c.toList.drop (off+X.cells.toList.length)).toArray):=by
 have hrun:=f_ (P:=P) (w:=w) hsz hcs hh (off:=off) hl h1
 obtain ⟨dst,op,type,pos,after,guard⟩:=o
 simp only at ho
 subst ho
 have e1:a.eval (.tmp p)=.pointer (some ⟨b,off,none⟩):=by simp [Act.eval,hp]
 have e2:a.eval (.tmp x)=X:=by simp [Act.eval,hx]
 simp [execOp,e1,e2,Instr.storeAt,Instr.sureAddr,hrun]
theorem BT {o:Oper} {t v l e sz:Nat} (ho:o.op=.indexAddr t (.tmp v) (.tmp l)) (he:c_ P t=some e) (hsz:bw P e=some sz) {a:Act} {w:World} {b off len cap i:Nat} {k:IntKind} (hv:a.tmps[v]?=some (.slice (some ⟨b,off,none⟩) len cap)) (hl:a.tmps[l]?=some (.int k i)) (hi:i<len) :
   (execOp a.eval o).run P w=.ok (.value (.pointer (some ⟨b,off+i*sz,none⟩))) w:=by
 have hrun:=jw (P:=P) (w:=w) (b:=b) (o:=off) (cap:=cap) (k:=k) (i:=(i:Int)) (len:=len) he hsz (by omega) (by omega)
 obtain ⟨dst,op,type,pos,after,guard⟩:=o
 simp only at ho
 subst ho
 have e1:a.eval (.tmp v)=.slice (some ⟨b,off,none⟩) len cap:=by simp [Act.eval,hv]
 have e2:a.eval (.tmp l)=.int k i:=by simp [Act.eval,hl]
 have e3:execOp a.eval (⟨dst,.indexAddr t (.tmp v) (.tmp l),type,pos,after,guard⟩:Oper)=(do pure (.value (←Instr.indexAt t (a.eval (.tmp v)) (a.eval (.tmp l))))):=rfl
 rw [e3,e1,e2]
 simp only [Sem.run_bind,hrun,Result.andThen_ok,Sem.run_pure,Int.toNat_natCast]
theorem lQ {x:Operand} {s:Nat} (h:cO ns x=some (.t s)):x=.tmp s:=by
 cases x with
 | tmp t=>simp [cO] at h;rw [h]
 | const c=>simp only [cO,Option.map_eq_some_iff] at h;obtain ⟨_,_,h⟩:=h;cases h
 | func f=>simp only [cO,Option.map_eq_some_iff] at h;obtain ⟨_,_,h⟩:=h;cases h
 | global g=>simp [cO] at h
theorem xY {A:gm} {N:Nat} {ops:Array Oper} {o:Oper} {v s z sz by_:Nat} (h:bH P ns A N ops o=some ⟨some v,none,[.t s,.t z],.append sz by_⟩) :
   o.dst=some v∧v<N∧o.guard=none∧(∀c,o.op≠.defer c)∧∃(argTypes:Array TypeId) (type t e t1 e1:Nat) (zz:List PV),argTypes[0]?=some t∧argTypes[1]?=some t1∧P.underlying t=some (.slice e)∧P.underlying t1=some (.slice e1)∧bw P e=some sz∧cN P e=some by_∧bn P e=some zz∧zz.length=sz∧0<by_ ∧
     ∀(a:Act) (w w':World) (V:Value),(Builtin.append_ argTypes type #[a.eval (.tmp s),a.eval (.tmp z)]).run P w=.ok V w'→(execOp a.eval o).run P w=.ok (.value V) w':=by
 have hdef:=la h
 obtain ⟨args,h1,h2,h3,h4,h5⟩:=eB h
 have hg:o.guard=none:=by
   rcases h5 with h5 | ⟨j,b,t,_,_,h5⟩
   · exact h5.1
   · cases h5
 have hv:o.dst=some v:=h3.symm
 obtain ⟨c,hc⟩:=kO h1
 rw [hc] at h1
 obtain ⟨x,y,t,e,t1,e1,zz,hcal,hargs,rfl,g0,g1,hu,hu1,hsz,hby,hz,hzl,hs0,hb0⟩:=nD h1
 have hx:x=.tmp s∧y=.tmp z:=by
   simp only [bB] at h2
   cases q1:cO ns x with
   | none=>rw [q1] at h2;simp at h2
   | some p1=>cases q2:cO ns y with
     | none=>rw [q1,q2] at h2;simp at h2
     | some p2=>
       rw [q1,q2] at h2
       simp at h2
       rw [h2.1] at q1
       rw [h2.2] at q2
       exact ⟨lQ q1,lQ q2⟩
 obtain ⟨rfl,rfl⟩:=hx
 refine ⟨hv,by rw [hv] at h4;simpa using h4,hg,hdef,c.argTypes,o.type,t,e,t1,e1,zz,g0,g1,hu,hu1,hsz,hby,hz,hzl,hb0,fun a w w' V hr=>?_⟩
 obtain ⟨dst,op,type,pos,after,guard⟩:=o
 obtain ⟨callee,cargs,ctypes⟩:=c
 simp only at hcal hargs hc hr
 subst hc;subst hcal;subst hargs
 have e3:execOp a.eval (⟨dst,.call ⟨.builtin .append,#[.tmp s,.tmp z],ctypes⟩,type,pos,after,guard⟩:Oper)=(do pure (.value (←Builtin.append_ ctypes type #[a.eval (.tmp s),a.eval (.tmp z)]))):=by
   simp [execOp,resolve,invoke,builtin]
 rw [e3]
 simp only [Sem.run_bind,hr,Result.andThen_ok,Sem.run_pure]
theorem xZ {A:gm} {N:Nat} {ops:Array Oper} {o:Oper} {c v sz:Nat} (h:bH P ns A N ops o=some ⟨none,none,[.t c,.t v],.df sz⟩) :
   o.dst=none∧o.guard=none∧∃t,o.op=.store t (.tmp c) (.tmp v)∧bw P t=some sz:=by
 obtain ⟨args,h1,h2,h3,h4,h5⟩:=eB h
 have hg:o.guard=none:=by
   rcases h5 with h5 | ⟨j,b,t,_,_,h5⟩
   · exact h5.1
   · cases h5
 obtain ⟨t,tx,y,e1,rfl,hsz⟩:=kN h1
 refine ⟨h3.symm,hg,t,?_,hsz⟩
 have q1:cO ns (.tmp tx)=some (.t tx):=rfl
 simp only [bB,q1] at h2
 cases q2:cO ns y with
 | none=>rw [q2] at h2;simp at h2
 | some p2=>
   rw [q2] at h2
   simp at h2
   rw [h2.2] at q2
   rw [e1,h2.1,lQ q2]
theorem x4 {K:aP} {p:PV} {v:Value} (h:Rel K p v):R K true p v.cells.toList:=by
 cases p with
 | agg cs=>
   obtain ⟨vs,rfl,h⟩:=h
   simp only [R,true_and]
   simpa [Value.cells] using h
 | bool b=>simp only [Rel,R] at h;simp at h;subst h;simp [R,Value.cells]
 | int k i=>simp only [Rel,R] at h;simp at h;subst h;simp [R,Value.cells]
 | str s=>simp only [Rel,R] at h;simp at h;subst h;simp [R,Value.cells]
 | aF l=>
   have h':=h
   obtain ⟨b,n,c,rfl,_⟩:=a7.1 h'
   exact R.top h
theorem rN {a:Act} {d:Nat} {v:Value} (h:d<a.tmps.size):(a.put (some d) v).tmps[d]?=some v:=by simp [Act.put,h]
theorem iX {a:Act} {d t:Nat} {v:Value} (h:d≠t):(a.put (some d) v).tmps[t]?=a.tmps[t]?:=by simp only [Act.put];exact Array.getElem?_setIfInBounds_ne h
theorem uB {sz by_:Nat} {s y:AV} {p:PV} {aa toks':al} (h:aS sz by_ s (.cz [p]) aa=some (y,toks')):∃l τ els,y=.own l τ∧bF s=some els∧(∀b z n ag,s≠.aY b z n ag):=by
 unfold aS at h
 simp only [bF] at h
 split at h
 · split at h
   · simp at h;exact ⟨_,_,_,h.2.1.symm,rfl,by simp⟩
   · simp at h;exact ⟨_,_,_,h.2.1.symm,rfl,by simp⟩
   · cases h
 · cases h
theorem DX {orc:dh} {N:Nat} {ops:Array Oper} {A:gm} {o4 o5 o6 o7:Oper} (i4:ops[4]?=some o4) (i5:ops[5]?=some o5) (i6:ops[6]?=some o6) (i7:ops[7]?=some o7)
   {s x l z v p c sz by_ t te sz7:Nat} (h4:bH P ns A N ops o4=some ⟨some v,none,[.t s,.t z],.append sz by_⟩) (h7:bH P ns A N ops o7=some ⟨none,none,[.t c,.t v],.df sz7⟩)
   (h5:o5.op=.indexAddr t (.tmp v) (.tmp l)∧o5.dst=some p∧o5.guard=none) (h6:o6.op=.store te (.tmp p) (.tmp x)∧o6.dst=none∧o6.guard=none)
   (ht:(c_ P t).bind (bw P)=some sz) (hte:bw P te=some sz) (hpN:p<N)
   (d1:v≠l) (d2:v≠x) (d3:p≠x) (d4:p≠v) (d5:c≠v) (d6:c≠p) (d7:c≠z) (d8:v≠z) (d9:s≠z)
   (r4:Region.ready .any ops #[true,true,true,true,false,false,false,false]=[4])
   (r5:Region.ready .any ops #[true,true,true,true,true,false,false,false]=[5,7])
   (r56:Region.ready .any ops #[true,true,true,true,true,true,false,false]=[6,7])
   (r7:Region.ready .any ops #[true,true,true,true,true,false,false,true]=[5])
   (r567:Region.ready .any ops #[true,true,true,true,true,true,true,false]=[7])
   (r57:Region.ready .any ops #[true,true,true,true,true,true,false,true]=[6])
   (r8:Region.ready .any ops #[true,true,true,true,true,true,true,true]=[])
   {st st5 st6 st':St} {G:Gh} {a:Act} {w:World} {zs:List PV} {sv:AV} {els:List PV} (hzs:zs.length=sz) (hs:dM (num ns) n0 N G st a w)
   (es:look st.env s=some sv) (hels:bF sv=some els) (el:look st.env l=some (.pv (.int .i64 (els.length:Nat)))) (ez:look st.env z=some (.cz [.agg zs]))
   (hb:bj orc ⟨some z,none,[.t x],.v (.cJ sz)⟩ st=some st5) (ha:bj orc ⟨some v,none,[.t s,.t z],.append sz by_⟩ st5=some st6) (lE:bj orc ⟨none,none,[.t c,.t v],.df sz7⟩ st6=some st')
   {Q:Exit→Act→World→Prop} (hq:∀G' a' w',dM (num ns) n0 N G' { st' with env:=jg p (jg z st'.env) } a' w'→aZ G w G' w'→Q .normal a' w') :
   wpAnyIn (je ro) n P .any ops Q 4 #[true,true,true,true,false,false,false,false] a w:=by
 obtain ⟨xv,px,ex,hfx,hpl,rfl⟩:∃xv px,look st.env x=some xv∧gQ [] xv=some px∧(aH px).length=sz∧st5={ st with env:=bN st.env z (.cz [px]) }:=by
   cases ex:look st.env x with
   | none=>simp [bj,a_,bc,b_,ex] at hb
   | some xv=>
     cases hfx:gQ [] xv with
     | none=>simp [bj,a_,bc,b_,ex,exec,a6,bY,hfx] at hb
     | some px=>
       simp only [bj,a_,bc,b_,ex,exec,a6,bY,hfx,Option.bind_some] at hb
       by_cases hl:(aH px).length=sz
       · simp [hl,dz,AK.key,dr] at hb
         exact ⟨xv,px,rfl,hfx,hl,hb.symm⟩
       · simp [hl] at hb
 obtain ⟨y,toks',happ,rfl⟩:∃y toks',aS sz by_ sv (.cz [px]) st.aa=some (y,toks')∧st6={ st with env:=bN (bN st.env z (.cz [px])) v y,aa:=toks' }:=by
   cases happ:aS sz by_ sv (.cz [px]) st.aa with
   | none=>
     simp only [bj,a_,bc,b_,aL,aA _ _ _ _ (Ne.symm d9),es,AK.key,Option.bind_none,exec,happ,Option.map_none] at ha
     cases ha
   | some q=>
     obtain ⟨y,toks'⟩:=q
     simp only [bj,a_,bc,b_,aL,aA _ _ _ _ (Ne.symm d9),es,AK.key,Option.bind_none,exec,happ,Option.map_some,dz,cG,Option.some.injEq] at ha
     exact ⟨y,toks',rfl,ha.symm⟩
 obtain ⟨yl,yτ,els',rfl,hels',hnos⟩:=uB happ
 rw [hels] at hels';cases hels'
 obtain ⟨k,off,cs,ec,hcs,hmb,h1l,hle,hrf,rfl⟩:∃k off cs,look st.env c=some (.aO k off)∧st.sh[k]?=some (some cs)∧cK cs=false∧sz7=1∧off+1≤cs.length∧cs.all (fun _=>true)=true ∧
     st'={ st with env:=bN (bN st.env z (.cz [px])) v (.own yl yτ),aa:=toks',sh:=st.sh.set k (some (aM cs off [.own yl yτ])) }:=by
   cases ec:look st.env c with
   | none=>simp [bj,a_,bc,b_,aA _ _ _ _ (Ne.symm d5),aA _ _ _ _ (Ne.symm d7),ec] at lE
   | some cv=>
     cases hx:exec orc (.df sz7) [cv,.own yl yτ] none st.sh toks' with
     | none=>simp [bj,a_,bc,b_,aL,aA _ _ _ _ (Ne.symm d5),aA _ _ _ _ (Ne.symm d7),ec,AK.key,hx] at lE
     | some out=>
       simp [bj,a_,bc,b_,aL,aA _ _ _ _ (Ne.symm d5),aA _ _ _ _ (Ne.symm d7),ec,AK.key,hx] at lE
       obtain ⟨b,off,v',cs,hv,hcs,hmb,hl,hle,hlf,hrf,rfl⟩:=eJ hx
       simp at hv
       obtain ⟨rfl,rfl⟩:=hv
       simp [bA] at hl
       subst hl
       refine ⟨b,off,cs,rfl,hcs,hmb,rfl,hle,by simp,?_⟩
       rw [←lE]
       simp [dz,dr,bA]
 subst h1l
 obtain ⟨Vs,ts,rs⟩:=hs.env.env s _ es
 obtain ⟨Vx,tx,rx⟩:=hs.env.env x _ ex
 obtain ⟨Vl,tl,rl⟩:=hs.env.env l _ el
 obtain ⟨Vz,tz,rz⟩:=hs.env.env z _ ez
 obtain ⟨Vc,tc,rc⟩:=hs.env.env c _ ec
 simp only [ah,dJ] at rl
 subst rl
 simp only [ah] at rc
 obtain ⟨bo,hsm,rfl⟩:=rc
 obtain ⟨bo',hsm',hblk,hcl,hcr⟩:=hs.inv.bS _ _ hcs
 rw [hsm] at hsm';cases hsm'
 obtain ⟨hrole,co,tyo,vso,suf,hho,hcz,hsp,hrel⟩:=hblk.cells hmb
 have hxr:R G.K true px Vx.cells.toList:=x4 (iF hfx rx)
 have hzr:Rel G.K (.aF [.agg zs]) Vz:=cE (els:=[.agg zs]) rfl rz
 obtain ⟨q1,q2,q3,q4,argTypes,type,ty,e,ty1,e1,zz,g0,g1,hu,hu1,hsz,hby,hz,hzl,hb0,run4⟩:=xY h4
 obtain ⟨b,o,len,cap,cc,tyc,w5,base0,cap0,rfl,hrun,hh5,hbd,hoth,G',gr,gi,gle,gevo⟩:=xW (type:=type) (sh:=st.sh) (mem:=st.mem) g0 g1 hu hu1 hsz hby hz hzl hb0 rs hzr (by simp [aQ,aH,hzs]) hxr hpl hs.inv happ
 have hlen:len=els.length:=by
   obtain ⟨xb,xc,e⟩:=eI hels rs
   cases e;rfl
 subst hlen
 obtain ⟨hne,hh7⟩:=hoth bo.1 (Array.getElem?_eq_some_iff.1 hho).1 (by rw [hrole];simp)
 rw [hho] at hh7
 have hxl:Vx.cells.toList.length=sz:=by rw [hxr.length,hpl]
 obtain ⟨et,he5,hs5⟩:=Option.bind_eq_some_iff.1 ht
 have hN:=hs.env.size
 obtain ⟨m1,m2,m3⟩:=h5
 obtain ⟨m4,m5,m6⟩:=h6
 obtain ⟨m7,m8,t7,m9,hs7⟩:=xZ h7
 have nd5:∀c,o5.op≠.defer c:=by rw [m1];simp
 have nd6:∀c,o6.op≠.defer c:=by rw [m4];simp
 have nd7:∀c,o7.op≠.defer c:=by rw [m9];simp
 generalize hV:Value.slice (some ⟨b,o,none⟩) (els.length+1) cap=V at *
 have hVc:V.cells.toList=[V]:=by subst hV;rfl
 have hx1:∀u∈Vx.cells.toList,u.oneCell'=true:=cg.one hxr.cells
 have run5:∀(a':Act) (w':World),a'.tmps[v]?=some V→a'.tmps[l]?=some (.int .i64 (els.length:Nat))→(execOp a'.eval o5).run P w'=.ok (.value (.pointer (some ⟨b,o+els.length*sz,none⟩))) w':=by
   intro a' w' f1 f2
   subst hV
   exact BT m1 he5 hs5 f1 f2 (by omega)
 have run6:∀(a':Act) (w':World),a'.tmps[p]?=some (.pointer (some ⟨b,o+els.length*sz,none⟩))→a'.tmps[x]?=some Vx→w'.heap[b]?=some (.cells cc tyc (0,0))→(execOp a'.eval o6).run P w'=.ok .skip (w'.setRow b (cc.toList.take (o+els.length*sz)++Vx.cells.toList++cc.toList.drop (o+els.length*sz+Vx.cells.toList.length)).toArray):=by
   intro a' w' f1 f2 f3
   exact qt m4 hte f1 f2 (by simpa using hxl) f3 hbd hx1
 have hco:off+1≤co.size:=by
   have:=hrel.length
   have:co.toList.length=vso.length+suf.length:=by rw [hsp,List.length_append]
   simp at this
   omega
 have run7:∀(a':Act) (w':World),a'.tmps[c]?=some (.pointer (some ⟨bo.1,off,none⟩))→a'.tmps[v]?=some V→w'.heap[bo.1]?=some (.cells co tyo (0,0))→(execOp a'.eval o7).run P w'=.ok .skip (w'.setRow bo.1 (co.toList.take off++V.cells.toList++co.toList.drop (off+V.cells.toList.length)).toArray):=by
   intro a' w' f1 f2 f3
   refine qt m9 hs7 f1 f2 ?_ f3 hco ?_
   · have:=congrArg List.length hVc;simpa using this
   · rw [hVc];intro u hu;simp at hu;subst hu;subst hV;rfl
 generalize hc6:(cc.toList.take (o+els.length*sz)++Vx.cells.toList++cc.toList.drop (o+els.length*sz+Vx.cells.toList.length)).toArray=c6 at *
 generalize hc7:(co.toList.take off++V.cells.toList++co.toList.drop (off+V.cells.toList.length)).toArray=c7 at *
 generalize hptr:Value.pointer (some ⟨b,o+els.length*sz,none⟩)=ptr at *
 have hA6:(w5.setRow b c6).heap[bo.1]?=some (.cells co tyo (0,0)):=by
   rw [(fc.setRow (G:=G) (w:=w5) b c6).other bo.1 hne];exact hh7
 have hA7:(w5.setRow bo.1 c7).heap[b]?=some (.cells cc tyc (0,0)):=by
   rw [(fc.setRow (G:=G) (w:=w5) bo.1 c7).other b (Ne.symm hne)];exact hh5
 obtain ⟨k1,k2⟩:=gi.iu (cells':=aM cs off [.own yl yτ]) hcs (gle.sm _ _ hsm) hA6 (c':=c7) (suf:=suf) (vs:=vso.take off++V.cells.toList++vso.drop (off+V.cells.toList.length))
   (by
     have:=hrel.length
     have:co.toList.length=vso.length+suf.length:=by rw [hsp,List.length_append]
     rw [←hcz,←hc7,hVc];simp at this ⊢;omega)
   (by
     have:=hrel.length
     rw [←hc7]
     show co.toList.take off++V.cells.toList++co.toList.drop (off+V.cells.toList.length)=_
     rw [hVc]
     simp only [List.length_singleton]
     rw [hsp,List.take_append_of_le_length (by omega),List.drop_append_of_le_length (by omega)]
     simp [List.append_assoc])
   (cL off (ae.mono gle hrel) (by rw [hVc];simp only [ae];exact ⟨V,[],rfl,gr,rfl⟩))
   (da hcl rfl) (da hcr rfl)
 have fin:Q .normal ((a.put (some v) V).put (some p) ptr) ((w5.setRow b c6).setRow bo.1 c7):=by
   refine hq G' _ _ ⟨⟨?_,?_⟩,k1,?_⟩ (gevo.trans k2)
   · simp [Act.put,hN]
   · intro u xu hu
     simp only [fm] at hu
     split at hu
     · cases hu
     · rename_i n1
       split at hu
       · cases hu
       · rename_i n2
         by_cases n3:v=u
         · subst n3
           rw [aL] at hu
           cases hu
           exact ⟨V,by rw [iX (Ne.symm n1),rN (by omega)],gr⟩
         · rw [aA _ _ _ _ n3,aA _ _ _ _ (Ne.symm n2)] at hu
           obtain ⟨V',f1,f2⟩:=hs.env.env u xu hu
           exact ⟨V',by rw [iX (Ne.symm n1),iX n3];exact f1,f2.mono gle⟩
   · exact hs.marks.pd (gevo.trans k2) (by simp [put_defers])
 have hw:(w5.setRow bo.1 c7).setRow b c6=(w5.setRow b c6).setRow bo.1 c7:=uA hne
 have tv5:(a.put (some v) V).tmps[v]?=some V:=rN (by omega)
 have tl5:(a.put (some v) V).tmps[l]?=some (.int .i64 (els.length:Nat)):=by rw [iX d1];exact tl
 have tc5:(a.put (some v) V).tmps[c]?=some (.pointer (some ⟨bo.1,off,none⟩)):=by rw [iX (Ne.symm d5)];exact tc
 have tp6:((a.put (some v) V).put (some p) ptr).tmps[p]?=some ptr:=rN (by simp [Act.put];omega)
 have tx6:((a.put (some v) V).put (some p) ptr).tmps[x]?=some Vx:=by rw [iX d3,iX d2];exact tx
 have tv6:((a.put (some v) V).put (some p) ptr).tmps[v]?=some V:=by rw [iX d4];exact tv5
 have tc6:((a.put (some v) V).put (some p) ptr).tmps[c]?=some (.pointer (some ⟨bo.1,off,none⟩)):=by rw [iX (Ne.symm d6)];exact tc5
 have e4:(execOp a.eval o4).run P w=.ok (.value V) w5:=by
   refine run4 a w w5 V ?_
   have f1:a.eval (.tmp s)=.slice base0 els.length cap0:=by simp [Act.eval,ts]
   have f2:a.eval (.tmp z)=Vz:=by simp [Act.eval,tz]
   rw [f1,f2]
   exact hrun
 refine ⟨fun h=>(by rw [r4] at h;cases h),fun i hi=>?_⟩
 rw [r4] at hi
 simp at hi;subst hi
 refine iW i4 q3 q4 e4 ?_
 rw [q1]
 show wpAnyIn (je ro) n P .any ops Q 3 #[true,true,true,true,true,false,false,false] _ _
 refine ⟨fun h=>(by rw [r5] at h;cases h),fun i hi=>?_⟩
 rw [r5] at hi
 simp at hi
 rcases hi with rfl | rfl
 · refine iW i5 m3 nd5 (run5 _ _ tv5 tl5) ?_
   rw [m2]
   show wpAnyIn (je ro) n P .any ops Q 2 #[true,true,true,true,true,true,false,false] _ _
   refine ⟨fun h=>(by rw [r56] at h;cases h),fun i hi=>?_⟩
   rw [r56] at hi
   simp at hi
   rcases hi with rfl | rfl
   · refine eL i6 m6 nd6 m5 (run6 _ _ tp6 tx6 hh5) ?_
     show wpAnyIn (je ro) n P .any ops Q 1 #[true,true,true,true,true,true,true,false] _ _
     refine ⟨fun h=>(by rw [r567] at h;cases h),fun i hi=>?_⟩
     rw [r567] at hi
     simp at hi;subst hi
     refine eL i7 m8 nd7 m7 (run7 _ _ tc6 tv6 hA6) ?_
     exact ⟨r8,fin⟩
   · refine eL i7 m8 nd7 m7 (run7 _ _ tc6 tv6 hh7) ?_
     show wpAnyIn (je ro) n P .any ops Q 1 #[true,true,true,true,true,true,false,true] _ _
     refine ⟨fun h=>(by rw [r57] at h;cases h),fun i hi=>?_⟩
     rw [r57] at hi
     simp at hi;subst hi
     refine eL i6 m6 nd6 m5 (run6 _ _ tp6 tx6 hA7) ?_
     rw [hw]
     exact ⟨r8,fin⟩
 · refine eL i7 m8 nd7 m7 (run7 _ _ tc5 tv5 hh7) ?_
   show wpAnyIn (je ro) n P .any ops Q 2 #[true,true,true,true,true,false,false,true] _ _
   refine ⟨fun h=>(by rw [r7] at h;cases h),fun i hi=>?_⟩
   rw [r7] at hi
   simp at hi;subst hi
   refine iW i5 m3 nd5 (run5 _ _ tv5 tl5) ?_
   rw [m2]
   show wpAnyIn (je ro) n P .any ops Q 1 #[true,true,true,true,true,true,false,true] _ _
   refine ⟨fun h=>(by rw [r57] at h;cases h),fun i hi=>?_⟩
   rw [r57] at hi
   simp at hi;subst hi
   refine eL i6 m6 nd6 m5 (run6 _ _ tp6 tx6 hA7) ?_
   rw [hw]
   exact ⟨r8,fin⟩
theorem qu {orc:dh} {d a sz:Nat} {ag:Bool} {st st':St} (h:bj orc ⟨some d,none,[.t a],.dt sz ag⟩ st=some st'):∃v,st'={ st with env:=bN st.env d v }:=by
 cases e:look st.env a with
 | none=>simp only [bj,a_,bc,b_,e] at h;cases h
 | some x=>
   cases hx:exec orc (.dt sz ag) [x] none st.sh st.aa with
   | none=>simp only [bj,a_,bc,b_,e,AK.key,Option.bind_none,hx] at h;cases h
   | some out=>
     simp only [bj,a_,bc,b_,e,AK.key,Option.bind_none,hx,dz,Option.some.injEq] at h
     obtain ⟨p',x',_,rfl,_⟩:=gI hx
     exact ⟨x',by rw [←h];rfl⟩
theorem DY {orc:dh} {d a:Nat} {st st':St} (h:bj orc ⟨some d,none,[.t a],.v .len⟩ st=some st'):∃x v,look st.env a=some x∧a6 .len [x]=some v∧st'={ st with env:=bN st.env d v }:=by
 cases e:look st.env a with
 | none=>simp only [bj,a_,bc,b_,e] at h;cases h
 | some x=>
   cases hx:a6 .len [x] with
   | none=>simp only [bj,a_,bc,b_,e,AK.key,Option.bind_none,exec,hx,Option.map_none] at h;cases h
   | some v=>
     simp only [bj,a_,bc,b_,e,AK.key,Option.bind_none,exec,hx,Option.map_some,dz,cG,Option.some.injEq] at h
     exact ⟨x,v,rfl,hx,h.symm⟩
theorem FP {orc:dh} {d sz:Nat} {zs:List PV} {st st':St} (h:bj orc ⟨some d,none,[.c (.pv (.agg zs))],.v (.cJ sz)⟩ st=some st'):st'={ st with env:=bN st.env d (.cz [.agg zs]) }:=by
 have hf:bY [] [AV.pv (.agg zs)]=some [.agg zs]:=rfl
 by_cases hl:(aH (.agg zs)).length=sz
 · simp only [bj,a_,bc,b_,AK.key,Option.bind_none,exec,a6,hf,Option.bind_some,List.all_cons,List.all_nil,hl,beq_self_eq_true,Bool.and_true,if_true,Option.map_some,dz,cG,Option.some.injEq] at h
   exact h.symm
 · have hl':((aH (.agg zs)).length == sz)=false:=by simpa using hl
   simp only [bj,a_,bc,b_,AK.key,Option.bind_none,exec,a6,hf,Option.bind_some,List.all_cons,List.all_nil,hl',Bool.and_true,Bool.false_eq_true,if_false,Option.map_none] at h
   cases h
theorem lM {orc:dh} {o:cr} {st st':St} (h:bj orc o st=some st') {t:Nat} (ht:o.dst≠some t):look st'.env t=look st.env t:=by
 rw [cU,Option.map_eq_some_iff] at h
 obtain ⟨r,_,rfl⟩:=h
 simp only [dm]
 rw [if_neg ht]
theorem DZ {orc:dh} {d s z sz by_:Nat} {st st':St} (h:bj orc ⟨some d,none,[.t s,.t z],.append sz by_⟩ st=some st'):∃sv els,look st.env s=some sv∧bF sv=some els∧a6 .len [sv]=some (.pv (.int .i64 (els.length:Nat))):=by
 cases e1:look st.env s with
 | none=>simp only [bj,a_,bc,b_,e1] at h;cases h
 | some sv=>
   cases e2:look st.env z with
   | none=>simp only [bj,a_,bc,b_,e1,e2] at h;cases h
   | some zv=>
     cases hx:aS sz by_ sv zv st.aa with
     | none=>simp only [bj,a_,bc,b_,e1,e2,AK.key,Option.bind_none,exec,hx,Option.map_none] at h;cases h
     | some q=>
       unfold aS at hx
       split at hx
       · cases hx
       · split at hx
         · split at hx
           · exact ⟨_,_,rfl,rfl,rfl⟩
           · exact ⟨_,_,rfl,rfl,rfl⟩
           · cases hx
         · cases hx
theorem gk {A:gm} {N:Nat} {ops:Array Oper} {o:Oper} {ao:cr} (h:bH P ns A N ops o=some ao) (hg:ao.guard=none):o.guard=none:=by
 obtain ⟨_,_,_,_,_,h5⟩:=eB h
 rcases h5 with h5 | ⟨j,b,t,_,_,h5⟩
 · exact h5.1
 · rw [hg] at h5;cases h5
theorem Hd (hm:P.follows .mixedOrders=true) (hB:dZ P ns) {orc:dh} (horc:fe P ns orc) {A:gm} {N id:Nat} {ops:Array Oper} {z p:Nat} {as:List cr} (hc:Gy P ns A N ops=some (z,p,as))
   {st st':St} {G:Gh} {a:Act} {w:World} (hs:dM (num ns) n0 N G st a w) (hev:aW orc as st=some st') {Q:Exit→Act→World→Prop}
   (hq:∀G' a' w',dM (num ns) n0 N G' { st' with env:=jg p (jg z st'.env) } a' w'→aZ G w G' w'→Q .normal a' w'):(Code.region id ops true).wpIn (je ro) n P Q a w:=by
 unfold Gy at hc
 split at hc
 · rename_i o0 o1 o2 o3 o4 o5 o6 o7 hops
   split at hc
   · rename_i b0 b1 b2 b3 b4 b7 hpre h4 h7
     split at hc
     · rename_i s c0 sz0 ag0 x q sz ag l s1 z' zs sz1 p0 p1 p2 p3
       split at hc
       · rename_i v s2 z1 sz2 by_ c v1 sz7 p' t v2 l1 te pp1 x1 p4 p7 p5 p6
         rw [Option.ite_none_right_eq_some] at hc
         obtain ⟨hok,hc⟩:=hc
         simp only [Option.some.injEq,Prod.mk.injEq] at hc
         obtain ⟨rfl,rfl,rfl⟩:=hc
         simp only [Bool.and_eq_true,beq_iff_eq,List.cons.injEq,decide_eq_true_eq,and_true] at hok
         obtain ⟨⟨⟨⟨⟨⟨⟨⟨rfl,rfl,rfl,rfl,rfl,hzs,rfl,rfl,rfl,rfl,rfl⟩,hpN⟩,hnd⟩,ht⟩,hte⟩,hdr⟩,hed⟩,⟨⟨⟨⟨⟨⟨r4,r5⟩,r56⟩,r7⟩,r567⟩,r57⟩,r8⟩⟩:=hok
         have hO:ops=#[o0,o1,o2,o3]++#[o4,o5,o6,o7]:=by apply Array.ext';simpa using hops
         have hsz:ops.size=8:=by rw [hO];rfl
         simp only [va,List.contains_cons,List.contains_nil,Bool.or_false,Bool.and_true,Bool.and_eq_true,Bool.not_eq_true',Bool.or_eq_false_iff,beq_eq_false_iff_ne] at hnd
         obtain ⟨⟨y1,y2,y3,y4,y5,y6⟩,⟨y7,y8,y9,y10,y11⟩,⟨y12,y13,y14,y15⟩,⟨y16,y17,y18⟩,⟨y19,y20⟩,y21⟩:=hnd
         simp only [lz,Bool.and_eq_true] at hdr
         have c0':=qq p0
         have c1':=qq p1
         have c2':=DT p2
         have c3':=FN p3
         have c4':=DU p4
         have c7':=FO p7
         simp only [aW] at hev
         cases f0:bj orc b0 st with
         | none=>rw [f0] at hev;cases hev
         | some sa=>
         rw [f0] at hev
         simp only at hev
         cases f1:bj orc b1 sa with
         | none=>rw [f1] at hev;cases hev
         | some sb=>
         rw [f1] at hev
         simp only at hev
         cases f2:bj orc b2 sb with
         | none=>rw [f2] at hev;cases hev
         | some sc=>
         rw [f2] at hev
         simp only at hev
         cases f3:bj orc b3 sc with
         | none=>rw [f3] at hev;cases hev
         | some s4=>
         rw [f3] at hev
         simp only at hev
         cases fb:bj orc ⟨some z',none,[.t x],.v (.cJ sz)⟩ s4 with
         | none=>rw [fb] at hev;cases hev
         | some s5=>
         rw [fb] at hev
         simp only at hev
         cases f4:bj orc b4 s5 with
         | none=>rw [f4] at hev;cases hev
         | some s6=>
         rw [f4] at hev
         simp only at hev
         cases f7:bj orc b7 s6 with
         | none=>rw [f7] at hev;cases hev
         | some s7=>
         rw [f7] at hev
         simp only [Option.some.injEq] at hev
         subst hev
         have hevp:aW orc [b0,b1,b2,b3] st=some s4:=by simp only [aW,f0,f1,f2,f3]
         subst c4' c7'
         have g0:=f0;rw [c0'] at g0
         have g1:=f1;rw [c1'] at g1
         have g2:=f2;rw [c2'] at g2
         have g3:=f3;rw [c3'] at g3
         obtain ⟨v0,rfl⟩:=qu g0
         obtain ⟨v1,rfl⟩:=qu g1
         obtain ⟨xl,v2,g21,g22,rfl⟩:=DY g2
         have g3':=FP g3
         subst g3'
         obtain ⟨sv,els,es5,hels,hlen⟩:=DZ f4
         have es4:=es5
         rw [lM fb (by simp;exact Ne.symm y3)] at es4
         have IY:v0=sv:=by
           simp only [aA _ _ _ _ (Ne.symm y3),aA _ _ _ _ (Ne.symm y2),aA _ _ _ _ (Ne.symm y1),aL,Option.some.injEq] at es4
           exact es4
         have exl:xl=sv:=by
           simp only [aA _ _ _ _ (Ne.symm y1),aL,Option.some.injEq] at g21
           rw [←g21,IY]
         rw [exl,hlen] at g22
         simp only [Option.some.injEq] at g22
         refine wpIn_region_any hm ?_
         have mp:bH P ns A N #[o0,o1,o2,o3] o0=some b0∧bH P ns A N #[o0,o1,o2,o3] o1=some b1∧bH P ns A N #[o0,o1,o2,o3] o2=some b2∧bH P ns A N #[o0,o1,o2,o3] o3=some b3:=by
           refine ⟨?_,?_,?_,?_⟩
           · obtain ⟨y,e1,e2⟩:=gB hpre (i:=0) (x:=o0) rfl
             cases e1;exact e2
           · obtain ⟨y,e1,e2⟩:=gB hpre (i:=1) (x:=o1) rfl
             cases e1;exact e2
           · obtain ⟨y,e1,e2⟩:=gB hpre (i:=2) (x:=o2) rfl
             cases e1;exact e2
           · obtain ⟨y,e1,e2⟩:=gB hpre (i:=3) (x:=o3) rfl
             cases e1;exact e2
         have hany:pG orc #[o0,o1,o2,o3] [b0,b1,b2,b3] (look _) (fun s=>gN s _) 4 (Array.replicate 4 false) st:=
           nY (orc:=orc) (ops:=#[o0,o1,o2,o3]) (as:=[b0,b1,b2,b3]) (ds:=[]) (fun x y hl hr=>hl.symm.trans hr) hdr.1 hdr.2.1 rfl (fun a b h=>by cases h) [b0,b1,b2,b3] 0 (Array.replicate 4 false) st _
             (fun j=>by simp) rfl rfl (fun j hj=>by have hj:j<4:=hj;simp [hj]) (fun k o ho hk=>by
               exfalso
               have hk':k<4:=(Array.getElem?_eq_some_iff.1 ho).1
               simp [hk'] at hk) hdr.2.2 (fun _=>rfl) hevp (gN.refl _)
         have key:=oD (ro:=ro) (n:=n) (suf:=#[o4,o5,o6,o7]) (Q:=Q) hB horc (pre:=#[o0,o1,o2,o3]) hpre (by
             intro o ho
             simp at ho
             rcases ho with rfl | rfl | rfl | rfl
             · exact gk mp.1 (by rw [c0'])
             · exact gk mp.2.1 (by rw [c1'])
             · exact gk mp.2.2.1 (by rw [c2'])
             · exact gk mp.2.2.2 (by rw [c3'])) hdr.1 (by
             intro o ho i hi
             have hi:i<4:=hi
             have ho:o∈[o4,o5,o6,o7]:=by simpa using ho
             have h1:=List.all_eq_true.1 (List.all_eq_true.1 hed o ho) i (by simp;omega)
             obtain ⟨e,he,h2⟩:=List.any_eq_true.1 h1
             simp only [Bool.and_eq_true,beq_iff_eq] at h2
             exact ⟨e,by simpa using he,h2.1,h2.2⟩) (listed:=Array.replicate 4 false) rfl (by decide) hs.drew hany (fun st'' G' a' w' hl hs'' he=>?_)
         · rw [hsz]
           rw [hO]
           exact key
         · rw [←hO]
           have q4:ops[4]?=some o4:=by rw [hO];rfl
           have q5:ops[5]?=some o5:=by rw [hO];rfl
           have q6:ops[6]?=some o6:=by rw [hO];rfl
           have q7:ops[7]?=some o7:=by rw [hO];rfl
           exact DX q4 q5 q6 q7 h4 h7 (DV p5) (DW p6) ht hte hpN (Ne.symm y13) (Ne.symm y9) (Ne.symm y10) (Ne.symm y19) (Ne.symm y20) (Ne.symm y21.1) (Ne.symm y18) (Ne.symm y16) y3 r4 r5 r56 r7 r567 r57 r8 hzs.symm (hs''.EP hl)
             es4 hels (by simp only [aA _ _ _ _ (Ne.symm y12),aL];rw [←g22]) (by rw [aL]) fb f4 f7 (fun G'' a'' w'' h1 h2=>hq G'' a'' w'' h1 (((aZ.drew G w).trans he).trans h2))
       · cases hc
     · cases hc
   · cases hc
 · cases hc
theorem hU {live:List Nat} {env env':List (Nat×AV)}:∀{l:List Nat},(∀t∈l,look env t=look env' t)→aX live env l=aX live env' l
 | [],_=>rfl
 | t::l,h=>by
   simp only [aX,h t (by simp)]
   rw [hU (l:=l) fun u hu=>h u (by simp [hu])]
theorem rO {live:List Nat} {z p:Nat} {st:St} (hz:live.contains z=false) (hp:live.contains p=false):restrict live { st with env:=jg p (jg z st.env) }=restrict live st:=by
 unfold restrict
 congr 1
 refine hU fun t ht=>?_
 have h1:t≠p:=by rintro rfl;simp at hp;exact hp ht
 have h2:t≠z:=by rintro rfl;simp at hz;exact hz ht
 rw [fm,if_neg h1,fm,if_neg h2]
end
end Go.Ab
namespace Go.Ab
section
variable {n0:Nat} {P:Program} {ns:Names} {ro:Option Nat}
theorem mE {c:Code} {Q:Exit→Act→World→Prop} {f:St→Option (aG×St)} {pre:St→St} {N:Nat}
   (hpre:∀{st:St} {G:Gh} {a:Act} {w:World},dM (num ns) n0 N G st a w→∃G',dM (num ns) n0 N G' (pre st) a w∧aZ G w G' w)
   (hf:∀{st st':St} {e:aG} {G:Gh} {a:Act} {w:World} {Q:Exit→Act→World→Prop},f st=some (e,st')→dM (num ns) n0 N G st a w →
     (∀G' a' w',dM (num ns) n0 N G' st' a' w'→aZ G w G' w'→Q (fU e) a' w')→c.wpIn (je ro) 0 P Q a w) :
   ∀(n:Nat) {st st':St} {e:aG} {G:Gh} {a:Act} {w:World},dQ f pre n st=some (e,st')→dM (num ns) n0 N G st a w →
     (∀G' a' w',dM (num ns) n0 N G' st' a' w'→aZ G w G' w'→Q (fU e) a' w')→Code.roundsIn (je ro) 0 P c Q n a w
 | 0,st,st',e,G,a,w,h,_,_=>by simp [dQ] at h
 | n+1,st,st',e,G,a,w,h,hs,hq=>by
   rw [roundsIn_succ]
   obtain ⟨G0,hs0,he0⟩:=hpre hs
   simp only [dQ] at h
   split at h
   · rename_i st1 h1
     refine hf h1 hs0 fun G' a' w' hs' he'=>?_
     exact mE hpre hf n h hs' fun G'' a'' w'' hs'' he''=>hq G'' a'' w'' hs'' ((he0.trans he').trans he'')
   · rename_i r hr
     have hne:e≠.normal:=by
       rintro rfl
       exact hr st' h
     refine hf h hs0 fun G' a' w' hs' he'=>?_
     have:=hq G' a' w' hs' (he0.trans he')
     cases e with
     | normal=>exact absurd rfl hne
     | ret=>exact this
     | exit id=>exact this
theorem x5 {ρ:bh} {G:Gh} {x:AV} {v:Value} (h:ah ρ G x v):ah ρ G (j6 x) v:=by
 cases x with
 | cz l=>
   simp only [ah] at h
   obtain ⟨base,len,e,r⟩:=h
   simp only [j6,ah]
   exact a7.2 ⟨base,len,len,e,Nat.le_refl _,r⟩
 | _=>exact h
theorem oE {ρ:bh} {G:Gh}:∀(n:Nat) {xs:List AV} {vs:List Value},ae ρ G xs vs→ae ρ G ((xs.take n).map j6++xs.drop n) vs
 | 0,xs,vs,h=>by simpa using h
 | n+1,[],vs,h=>by simpa using h
 | n+1,x::r,vs,h=>by
   simp only [ae] at h
   obtain ⟨v,q,rfl,h1,h2⟩:=h
   simp only [List.take_succ_cons,List.map_cons,List.drop_succ_cons,List.cons_append,ae]
   exact ⟨v,q,rfl,x5 h1,oE n h2⟩
theorem qv {p:AV→Bool} (hp:∀l,p (.cz l)=true→p (.pv (.aF l))=true) {xs:List AV} (h:xs.all p=true) (n:Nat):((xs.take n).map j6++xs.drop n).all p=true:=by
 rw [List.all_eq_true] at h ⊢
 intro y hy
 rw [List.mem_append,List.mem_map] at hy
 rcases hy with ⟨x,hx,rfl⟩ | hy
 · have:=h x (List.mem_of_mem_take hx)
   cases x<;>first | exact this | exact hp _ this
 · exact h y (List.mem_of_mem_drop hy)
theorem x6 {N:Nat} {v:AV} {st:St} {G:Gh} {a:Act} {w:World} (h:dM (num ns) n0 N G st a w):∃G',dM (num ns) n0 N G' (uX v st) a w∧aZ G w G' w:=by
 unfold uX
 split
 · rename_i st' b
   split
   · rename_i cs hcs
     refine ⟨G,⟨h.env,?_,h.marks⟩,aZ.refl G w⟩
     have i:=h.inv
     refine ⟨i.known,i.aK,i.fresh,i.bM,i.eR,?_,?_,i.bT,i.dD,i.jo⟩
     · intro s cells hs
       rw [List.getElem?_set] at hs
       by_cases hb:b=s
       · subst hb
         have hlt:=(List.getElem?_eq_some_iff.1 hcs).1
         rw [if_pos rfl,if_pos hlt] at hs
         cases hs
         obtain ⟨q,e1,⟨e2,o,e3,e4⟩,e5,e6⟩:=i.bS b cs hcs
         refine ⟨q,e1,⟨e2,o,e3,e4.to (fun _ _ _ h=>h) (fun kvs hk=>by subst hk;simp [j6]) fun vs=>oE _⟩,qv (fun _ _=>rfl) e5 _,qv (fun _ _=>rfl) e6 _⟩
       · rw [if_neg hb] at hs
         exact i.bS s cells hs
     · intro s q hs
       rw [List.length_set]
       exact i.dC s q hs
   · exact ⟨G,h,aZ.refl G w⟩
 · rename_i st' d
   split
   · rename_i cs hcs
     split
     · rename_i ps hps
       obtain ⟨G1,k1,k2,k3,k4,k5⟩:=Inv.kill ([.agg cs].flatMap dq) h.inv
       obtain ⟨b,e1,⟨e2,c,t,e3,e4⟩,e5⟩:=h.inv.bM d cs hcs
       obtain ⟨b',f1,⟨f2,c',t',f3,f4⟩,f5⟩:=k1.bM d cs hcs
       have hb:b=b':=by have:=k2.pm d b e1;rw [f1] at this;simpa using this.symm
       subst hb
       have hcc:c=c':=by rw [e3] at f3;cases f3;rfl
       subst hcc
       have hrl:cg G1.K ps c.toList:=iO k2 k4 h.inv.nK (fun s hs=>by simpa using hs) hps e4
       have hlf:(ps.map AV.pv).all aJ=true:=by
         rw [List.all_eq_true]
         intro x hx
         rw [List.mem_map] at hx
         obtain ⟨p,hp,rfl⟩:=hx
         have:=iv hrl p hp
         cases p<;>first | rfl | simp [e_] at this
       refine ⟨G1,⟨⟨h.env.size,fun t' x hx=>?_⟩,?_,h.marks.pd k3 rfl⟩,k3⟩
       · obtain ⟨u',g1,g2⟩:=h.env.env t' x hx
         exact ⟨u',g1,g2.mono k2⟩
       · refine ⟨k1.known,k1.aK,k1.fresh,?_,?_,k1.bS,k1.dC,k1.bT,k1.dD,k1.jo⟩
         · intro d' cs' hd'
           by_cases hdd:d=d'
           · subst hdd
             rw [aL] at hd'
             cases hd'
             exact ⟨b,f1,⟨f2,c,t',f3,fD hrl⟩,hlf⟩
           · rw [aA _ _ _ _ hdd] at hd'
             exact k1.bM d' cs' hd'
         · intro d' b' hd'
           by_cases hdd:d=d'
           · subst hdd;rw [aL];rfl
           · rw [aA _ _ _ _ hdd];exact k1.eR d' b' hd'
     · exact ⟨G,h,aZ.refl G w⟩
   · exact ⟨G,h,aZ.refl G w⟩
 · exact ⟨G,h,aZ.refl G w⟩
theorem gP {N:Nat}:∀{ts:List Nat} {st:St} {G:Gh} {a:Act} {w:World},dM (num ns) n0 N G st a w→∃G',dM (num ns) n0 N G' (kc ts st) a w∧aZ G w G' w
 | [],st,G,a,w,h=>⟨G,h,aZ.refl G w⟩
 | t::r,st,G,a,w,h=>by
   simp only [kc]
   split
   · rename_i v hv
     split
     · rename_i p hp
       obtain ⟨G1,k1,k2,k3,k4,k5⟩:=Inv.kill ([v].flatMap dq) h.inv
       obtain ⟨u,hu,hr⟩:=h.env.env t v hv
       have hrel:Rel G1.K p u:=nJ k2 k4 h.inv.nK (fun s hs=>by simpa using hs) hp hr
       have h1:dM (num ns) n0 N G1 { st with env:=bN st.env t (.pv p),sh:=ct st.sh [v] } a w:=by
         refine ⟨⟨h.env.size,fun t' x hx=>?_⟩,k1,h.marks.pd k3 rfl⟩
         by_cases ht:t'=t
         · subst ht
           rw [Ev.jU,if_pos rfl] at hx
           cases hx
           exact ⟨u,hu,by simpa only [ah] using hrel⟩
         · rw [Ev.jU,if_neg ht] at hx
           obtain ⟨u',f1,f2⟩:=h.env.env t' x hx
           exact ⟨u',f1,f2.mono k2⟩
       obtain ⟨G2,h2,he⟩:=gP (ts:=r) h1
       exact ⟨G2,h2,k3.trans he⟩
     · obtain ⟨G1,h1,e1⟩:=x6 (v:=v) h
       obtain ⟨G2,h2,e2⟩:=gP (ts:=r) h1
       exact ⟨G2,h2,e1.trans e2⟩
   · exact gP h
theorem lR {d s sz n:Nat} {ag:Bool} {env:List (Nat×AV)}:∀{l:List Nat} {t:Nat} {x:AV},look (qJ d s sz n ag env l) t=some x →
   ∃y,look env t=some y∧uY d s sz n ag y=some x
 | [],t,x,h=>by simp [qJ,look] at h
 | k::r,t,x,h=>by
   simp only [qJ] at h
   split at h
   · rename_i v hv
     simp only [look] at h
     split at h
     · rename_i e;subst e;cases h
       rw [Option.bind_eq_some_iff] at hv
       exact hv
     · exact lR h
   · exact lR h
def Gh.jj (G:Gh) (d b s n:Nat):Gh:=
 { G with role:=fun x=>if x=b then .shr s else G.role x,pm:=fun x=>if x=d then none else G.pm x,sm:=fun x=>if x=s then some (b,n) else G.sm x }
theorem uC {ρ:bh} {G:Gh} {d b s n:Nat} (hs:G.sm s=none) {x:AV} {v:Value} (hf:gT x=true) (h:ah ρ G x v):ah ρ (G.jj d b s n) x v:=by
 refine p9 (G':=G.jj d b s n) (aP.le_refl G.K) (fun s' b' e=>?_) (fun _ _ e=>e) hf h
 simp only [Gh.jj]
 rw [if_neg (by rintro rfl;rw [hs] at e;cases e)]
 exact e
theorem uD {x:AV} (h:aJ x=true):gT x=true:=by
 rcases kh h with hf | ⟨l,τ,rfl⟩
 · cases x with
   | own l τ=>rfl
   | _=>simpa [gT] using hf
 · rfl
theorem lg:∀{xs:List AV},xs.all aJ=true→ep xs=true
 | [],_=>rfl
 | x::xs,h=>by
   simp only [List.all_cons,Bool.and_eq_true] at h
   simp only [ep,Bool.and_eq_true]
   exact ⟨uD h.1,lg h.2⟩
theorem lS {ρ:bh} {G:Gh} {d b s n:Nat} (hs:G.sm s=none) {xs:List AV} {vs:List Value} (hf:xs.all aJ=true) (h:ae ρ G xs vs):ae ρ (G.jj d b s n) xs vs:=by
 refine gL (G':=G.jj d b s n) (aP.le_refl G.K) (fun s' b' e=>?_) (fun _ _ e=>e) (lg hf) h
 simp only [Gh.jj]
 rw [if_neg (by rintro rfl;rw [hs] at e;cases e)]
 exact e
theorem x7 {N d sz:Nat} {ag:Bool} {st:St} {G:Gh} {a:Act} {w:World} (h:dM (num ns) n0 N G st a w):∃G',dM (num ns) n0 N G' (EE d sz ag st) a w∧aZ G w G' w:=by
 unfold EE
 split
 · rename_i cells hcs
   split
   · rename_i hok
     obtain ⟨hlf,hrf⟩:=hok
     obtain ⟨b,e1,⟨e2,c,t,e3,e4⟩,e5⟩:=h.inv.bM d cells hcs
     have hsm:G.sm st.sh.length=none:=by
       cases hx:G.sm st.sh.length with
       | none=>rfl
       | some b'=>have:=h.inv.dC _ _ hx;omega
     have hcl:c.size=cells.length:=by have:=e4.length;simpa using this
     have hbs:b<w.heap.size:=(Array.getElem?_eq_some_iff.1 e3).1
     have hevo:aZ G w (G.jj d b st.sh.length cells.length) w:=
       { size:=Nat.le_refl _,os:=rfl,tape:=rfl,output:=rfl,K:=aP.le_refl G.K
         sm:=fun s' b' e=>by
           simp only [Gh.jj]
           rw [if_neg (by rintro rfl;rw [hsm] at e;cases e)]
           exact e
         cP:=fun b' _ hr=>⟨by
           simp only [Gh.jj]
           rw [if_neg (by rintro rfl;rw [e2] at hr;cases hr)]
           exact hr,rfl⟩
         fQ:=fun b' τ _ hr=>.inr ⟨τ,by
           simp only [Gh.jj]
           rw [if_neg (by rintro rfl;rw [e2] at hr;cases hr)]
           exact hr⟩
         eS:=fun _ _ _ _ _ hk=>hk }
     have hrole:∀b' r,G.role b'=r→r≠.jh d→(G.jj d b st.sh.length cells.length).role b'=r:=by
       intro b' r hr hn
       simp only [Gh.jj]
       rw [if_neg (by rintro rfl;rw [e2] at hr;exact hn hr.symm)]
       exact hr
     refine ⟨G.jj d b st.sh.length cells.length,⟨⟨h.env.size,fun t' x hx=>?_⟩,?_,h.marks.pd hevo rfl⟩,hevo⟩
     · obtain ⟨y,hy,hv⟩:=lR hx
       obtain ⟨u,g1,g2⟩:=h.env.env t' y hy
       refine ⟨u,g1,?_⟩
       have aD:cZ [] y=true→x=y→ah (num ns) (G.jj d b st.sh.length cells.length) x u:=by
         rintro hk rfl
         cases x with
         | own l τ=>exact uC hsm rfl g2
         | agg cs=>
           simp only [ah] at g2 ⊢
           obtain ⟨vs,q1,q2⟩:=g2
           refine ⟨vs,q1,gL (G':=G.jj d b st.sh.length cells.length) (aP.le_refl G.K) (fun s' b' e=>hevo.sm s' b' e) (fun _ _ e=>e) (by simpa [cZ] using hk) q2⟩
         | bg _ _=>simp [cZ] at hk
         | gR _ _=>simp [cZ] at hk
         | _=>exact uC hsm (by simpa [gT,cZ] using hk) g2
       unfold uY at hv
       split at hv
       · rename_i d' o
         simp only [ah] at g2
         obtain ⟨b',q1,q2⟩:=g2
         simp only [Option.some.injEq] at hv
         split at hv
         · rename_i hd
           subst hd hv
           rw [e1] at q1;cases q1
           simp only [ah]
           exact ⟨(b,cells.length),by simp [Gh.jj],q2⟩
         · rename_i hd
           subst hv
           simp only [ah]
           exact ⟨b',by simp only [Gh.jj];rw [if_neg hd];exact q1,q2⟩
       · rename_i d' m
         simp only [ah] at g2
         obtain ⟨b',q1,q2⟩:=g2
         split at hv
         · rename_i hd
           subst hd
           simp only [Option.ite_none_right_eq_some,Option.some.injEq] at hv
           obtain ⟨hm,rfl⟩:=hv
           rw [e1] at q1;cases q1
           simp only [ah]
           exact ⟨(b,cells.length),0,by simp [Gh.jj],q2,hm⟩
         · rename_i hd
           simp only [Option.some.injEq] at hv
           subst hv
           simp only [ah]
           exact ⟨b',by simp only [Gh.jj];rw [if_neg hd];exact q1,q2⟩
       · simp only [Option.ite_none_right_eq_some,Option.some.injEq] at hv
         exact aD hv.1 hv.2.symm
     · have hi:=h.inv
       refine ⟨hi.known,?_,?_,?_,?_,?_,?_,?_,?_,hi.fj hevo⟩
       · intro b' o v hk
         rcases hi.aK b' o v hk with hr | ⟨τ,hr⟩
         · exact .inl (hrole _ _ hr (by simp))
         · exact .inr ⟨τ,hrole _ _ hr (by simp)⟩
       · intro b' hb'
         exact hrole _ _ (hi.fresh b' hb') (by simp)
       · intro d' cs' hd'
         rw [fm] at hd'
         split at hd'
         · cases hd'
         · rename_i hdd
           obtain ⟨b',f1,⟨f2,c',t',f3,f4⟩,f5⟩:=hi.bM d' cs' hd'
           exact ⟨b',by simp only [Gh.jj];rw [if_neg hdd];exact f1,⟨hrole _ _ f2 (by simpa using hdd),c',t',f3,lS hsm f5 f4⟩,f5⟩
       · intro d' b' hd'
         simp only [Gh.jj] at hd'
         split at hd'
         · cases hd'
         · rename_i hdd
           rw [fm,if_neg hdd]
           exact hi.eR d' b' hd'
       · intro s' cs' hs'
         rw [List.getElem?_append] at hs'
         split at hs'
         · rename_i hlt
           obtain ⟨b',f1,⟨f2,o,f3,f4⟩,f5,f6⟩:=hi.bS s' cs' hs'
           refine ⟨b',hevo.sm _ _ f1,⟨hrole _ _ f2 (by simp),o,f3,f4.to (aP.le_refl G.K) (fun _ e=>e) (fun vs r=>lS hsm (en f5) r)⟩,f5,f6⟩
         · rename_i hlt
           have hs0:s'=st.sh.length:=by
             have:=(List.getElem?_eq_some_iff.1 hs').1
             simp at this
             omega
           subst hs0
           simp at hs'
           subst hs'
           refine ⟨(b,cells.length),by simp [Gh.jj],⟨by simp [Gh.jj],_,e3,?_⟩,hlf,hrf⟩
           have:=Holds.full (t:=t) (lS (d:=d) (b:=b) (n:=cells.length) hsm (en hlf) e4)
           rwa [hcl] at this
       · intro s' b' hs'
         simp only [Gh.jj] at hs'
         simp only [List.length_append,List.length_cons,List.length_nil]
         split at hs'
         · omega
         · have:=hi.dC s' b' hs';omega
       · intro τ n hn
         obtain ⟨t',f1,f2,f3⟩:=hi.bT τ n hn
         refine ⟨t',f1,f2,f3.cap,f3.zero,fun hsp=>?_⟩
         obtain ⟨b',o,c',ty,q1,q2,q3⟩:=f3.spare hsp
         exact ⟨b',o,c',ty,q1,hrole _ _ q2 (by simp),q3⟩
       · exact hi.dD
   · exact ⟨G,h,aZ.refl G w⟩
 · exact ⟨G,h,aZ.refl G w⟩
theorem kq {N:Nat}:∀{ps:List (Nat×Nat×Bool)} {st:St} {G:Gh} {a:Act} {w:World},dM (num ns) n0 N G st a w→∃G',dM (num ns) n0 N G' (se ps st) a w∧aZ G w G' w
 | [],st,G,a,w,h=>⟨G,h,aZ.refl G w⟩
 | (d,sz,ag)::r,st,G,a,w,h=>by
   obtain ⟨G1,h1,e1⟩:=x7 (d:=d) (sz:=sz) (ag:=ag) h
   obtain ⟨G2,h2,e2⟩:=kq (ps:=r) h1
   exact ⟨G2,h2,e1.trans e2⟩
theorem jX {b b':Nat}:∀{ts:List Nat} {env:List (Nat×AV)} {t:Nat} {x:AV},look (j0 b b' ts env) t=some x→look env t=some x∨∃z n ag,look env t=some (.aY b z n ag)∧x=.aY b' z n ag
 | [],env,t,x,h=>.inl h
 | u::r,env,t,x,h=>by
   simp only [j0] at h
   split at h
   · rename_i s z n ag hu
     split at h
     · rename_i hs
       subst hs
       rcases jX h with h1 | ⟨z',n',ag',h1,h2⟩
       · by_cases hut:u=t
         · subst hut
           rw [aL] at h1
           cases h1
           exact .inr ⟨z,n,ag,hu,rfl⟩
         · rw [aA _ _ _ _ hut] at h1
           exact .inl h1
       · by_cases hut:u=t
         · subst hut
           rw [aL] at h1
           cases h1
           exact .inr ⟨z,n,ag,hu,h2⟩
         · rw [aA _ _ _ _ hut] at h1
           exact .inr ⟨z',n',ag',h1,h2⟩
     · exact jX h
   · exact jX h
theorem x8 {N:Nat} {ts:List Nat} {st:St} {G:Gh} {a:Act} {w:World} (h:dM (num ns) n0 N G st a w):∃G',dM (num ns) n0 N G' (yV ts st) a w∧aZ G w G' w:=by
 unfold yV
 split
 · exact ⟨G,h,aZ.refl G w⟩
 · rename_i t r
   split
   · rename_i b z n ag hb
     split
     · rename_i cells hcs
       split
       · obtain ⟨blk,e1,_⟩:=h.inv.bS b cells hcs
         obtain ⟨g1,g2,g3⟩:=h.inv.fE hcs e1
         refine ⟨_,⟨⟨h.env.size,fun t' x hx=>?_⟩,g1,h.marks.pd g3 rfl⟩,g3⟩
         rcases jX hx with h1 | ⟨z',n',ag',h1,rfl⟩
         · obtain ⟨v,q1,q2⟩:=h.env.env t' x h1
           exact ⟨v,q1,q2.mono g2⟩
         · obtain ⟨v,q1,q2⟩:=h.env.env t' _ h1
           refine ⟨v,q1,?_⟩
           simp only [ah] at q2 ⊢
           obtain ⟨b',cap,f1,f2,f3⟩:=q2
           rw [e1] at f1;cases f1
           exact ⟨blk,cap,by simp [Gh.fE],f2,f3⟩
       · exact ⟨G,h,aZ.refl G w⟩
     · exact ⟨G,h,aZ.refl G w⟩
   · exact ⟨G,h,aZ.refl G w⟩
theorem uE:∀{ks:List Nat} {sh:Sh} {b:Nat},b∉ks→(kill sh ks)[b]?=sh[b]?
 | [],_,_,_=>rfl
 | k::ks,sh,b,h=>by
   simp only [List.mem_cons,not_or] at h
   have hk:kill sh (k::ks)=kill (sh.set k none) ks:=rfl
   rw [hk,uE h.2,List.getElem?_set,if_neg (fun e=>h.1 e.symm)]
theorem fo {N:Nat}:∀{ts:List Nat} {st:St} {G:Gh} {a:Act} {w:World},dM (num ns) n0 N G st a w→∃G',dM (num ns) n0 N G' (gS ts st) a w∧aZ G w G' w
 | [],st,G,a,w,h=>⟨G,h,aZ.refl G w⟩
 | t::r,st,G,a,w,h=>by
   simp only [gS]
   split
   · rename_i b z n ag hb
     split
     · rename_i cells hcs
       split
       · rename_i hok
         obtain ⟨hmb,hself⟩:=hok
         split
         · rename_i ps hps
           obtain ⟨G1,k1,k2,k3,k4,k5⟩:=Inv.kill ([.agg cells].flatMap dq) h.inv
           obtain ⟨blk,e1,e2,e3,e4⟩:=h.inv.bS b cells hcs
           obtain ⟨hr,c,ty,vs,suf,hh,hcz,hsp,hrel⟩:=e2.cells hmb
           have hnb:b∉[AV.agg cells].flatMap dq:=by
             have:¬(dq (.agg cells)).contains b=true:=by rw [hself];simp
             simpa using this
           have hb1:(ct st.sh [.agg cells])[b]?=some (some cells):=by
             show (kill st.sh ([AV.agg cells].flatMap dq))[b]?=_
             rw [uE hnb];exact hcs
           obtain ⟨blk',f1,f2,f3,f4⟩:=k1.bS b cells hb1
           have hblk:blk'=blk:=by
             have:=k2.sm _ _ e1
             rw [f1] at this;simpa using this
           subst hblk
           have hrl:cg G1.K ps vs:=iO k2 k4 h.inv.nK (fun s hs=>by simpa using hs) hps hrel
           have hlf:(ps.map AV.pv).all bO=true:=by
             rw [List.all_eq_true]
             intro x hx
             rw [List.mem_map] at hx
             obtain ⟨p,hp,rfl⟩:=hx
             have:=iv hrl p hp
             cases p<;>first | rfl | simp [e_] at this
           have h1:dM (num ns) n0 N G1 { st with sh:=(ct st.sh [.agg cells]).set b (some (ps.map .pv)) } a w:=by
             refine ⟨⟨h.env.size,fun t' x hx=>?_⟩,?_,h.marks.pd k3 rfl⟩
             · obtain ⟨u',g1,g2⟩:=h.env.env t' x hx
               exact ⟨u',g1,g2.mono k2⟩
             · exact { k1 with
                 bS:=fun s' cs' hs'=>by
                   rw [List.getElem?_set] at hs'
                   split at hs'
                   · rename_i he
                     subst he
                     split at hs'
                     · cases hs'
                       exact ⟨blk',f1,⟨f2.role,_,hh,.inl ⟨c,ty,vs,suf,rfl,hcz,hsp,fD hrl⟩⟩,hlf,qS _ _⟩
                     · cases hs'
                   · exact k1.bS s' cs' hs'
                 dC:=fun s' b' hs'=>by
                   have:=k1.dC s' b' hs'
                   simpa using this }
           obtain ⟨G2,h2,he⟩:=fo (ts:=r) h1
           exact ⟨G2,h2,k3.trans he⟩
         · exact fo h
       · exact fo h
     · exact fo h
   · exact fo h
theorem qw {α β:Type} {f:α→Option β}:∀{l:List α} {r:List β} (k:Nat),bB f l=some r→bB f (l.take k)=some (r.take k)∧bB f (l.drop k)=some (r.drop k)
 | l,r,0,h=>by simp [bB,h]
 | [],r,k+1,h=>by simp [bB] at h;subst h;simp [bB]
 | x::l,r,k+1,h=>by
   simp only [bB] at h
   split at h
   · rename_i y ys h1 h2
     cases h
     obtain ⟨g1,g2⟩:=qw k h2
     simp only [List.take_succ_cons,List.drop_succ_cons,bB,h1,g1]
     exact ⟨trivial,g2⟩
   · cases h
theorem rP (hB:dZ P ns) {orc:dh} (horc:fe P ns orc) {A:gm} {N id k:Nat} {q:Nat×List Nat×List Nat} {ops:Array Oper} {as:List cr} (hc:bB (bH P ns A N ops) ops.toList=some as) {live:List Nat} {st st':St} {e:aG} {G:Gh} {a:Act} {w:World}
   (hs:dM (num ns) n0 N G st a w) (hev:bX orc k (u_ (some q) as live) st=some (e,st')) {Q:Exit→Act→World→Prop}
   (hq:∀G' a' w',dM (num ns) n0 N G' st' a' w'→aZ G w G' w'→Q (fU e) a' w'):(Code.region id ops false).wpIn (je ro) 0 P Q a w:=by
 obtain ⟨j,l,ts⟩:=q
 simp only [u_,bX] at hev
 obtain ⟨g1,g2⟩:=qw j hc
 cases h1:aW orc (as.take j) st with
 | none=>rw [h1] at hev;simp at hev
 | some st1=>
   rw [h1] at hev
   simp only at hev
   cases h2:aW orc (as.drop j) (yV ts (Go.Ab.restrict l st1)) with
   | none=>rw [h2] at hev;simp at hev
   | some st2=>
     rw [h2] at hev
     simp only [Option.some.injEq,Prod.mk.injEq] at hev
     obtain ⟨rfl,rfl⟩:=hev
     refine wpIn_region_list ?_
     rw [←List.take_append_drop j ops.toList]
     refine dU hB horc g1 hs h1 fun G1 a1 w1 hs1 he1 _ _=>?_
     obtain ⟨G2,hs2,he2⟩:=x8 (ts:=ts) (hs1.restrict l)
     have:=dU (ro:=ro) (n:=0) (rest:=[]) (Q:=Q) hB horc g2 hs2 h2 (fun G3 a3 w3 hs3 he3 _ _=>by
       unfold wpListIn
       exact hq (G3.aD live) a3 w3 (hs3.restrict live) (he1.trans ((aZ.aD l).trans (he2.trans (he3.trans (aZ.aD live))))))
     rwa [List.append_nil] at this
theorem jf {live:List Nat} {env:List (Nat×AV)}:∀{ds:List (Nat×Nat)},eA (aX live env live) ds=true→eA env ds=true
 | [],_=>rfl
 | (a,b)::r,h=>by
   simp only [eA,Bool.and_eq_true] at h ⊢
   refine ⟨?_,jf h.2⟩
   obtain ⟨b1,o1,b2,o2,h1,h2,hne⟩:=qc h.1
   rw [(cH h1).1,(cH h2).1]
   simpa [apart] using hne
theorem oF {orc:dh} {k:Nat} {as:List cr} {live:List Nat} {ds:Option (List (Nat×Nat))} {ps:Option (List (Nat×Nat×Bool))} {st st':St} {e:aG}
   (h:bX orc k (behind ds ps (.kb as live)) st=some (e,st')) :
   ∃st1,aW orc as st=some st1∧e=.normal∧eA st1.env (ds.getD [])=true∧st'=se (ps.getD []) (restrict live st1):=by
 have h1:∀e2 st2,bX orc k (match ds with | some ds=>aq.seq (.kb as live) (.F9 ds) | none=>.kb as live) st=some (e2,st2) →
     ∃st1,aW orc as st=some st1∧e2=.normal∧eA st1.env (ds.getD [])=true∧st2=restrict live st1:=by
   intro e2 st2 h
   cases ds with
   | none=>
     simp only [bX] at h
     split at h
     · rename_i st1 h1
       simp at h;obtain ⟨rfl,rfl⟩:=h
       exact ⟨st1,h1,rfl,rfl,rfl⟩
     · simp at h
   | some ds=>
     simp only [bX] at h
     cases h1:aW orc as st with
     | none=>rw [h1] at h;simp at h
     | some st1=>
       rw [h1] at h
       simp only [Option.ite_none_right_eq_some,Option.some.injEq,Prod.mk.injEq] at h
       obtain ⟨h2,rfl,rfl⟩:=h
       exact ⟨st1,rfl,rfl,jf h2,rfl⟩
 unfold behind at h
 cases ps with
 | none=>
   obtain ⟨st1,g1,g2,g3,g4⟩:=h1 e st' h
   exact ⟨st1,g1,g2,g3,g4⟩
 | some ps=>
   simp only [bX] at h
   split at h
   · rename_i st2 h2
     simp at h
     obtain ⟨st1,g1,g2,g3,rfl⟩:=h1 _ _ h2
     exact ⟨st1,g1,h.1.symm,g3,h.2.symm⟩
   · rename_i r hr
     obtain ⟨st1,g1,rfl,g3,g4⟩:=h1 e st' h
     exact absurd h (hr st')
def na (P:Program) (ns:Names):Prop:=∀gb sz ag,look ns.bk gb=some (sz,ag)→∀f,ns.of f=some gb→Nonempty (rL P ns f sz ag)
theorem eY (hm:P.follows .mixedOrders=true) (hB:dZ P ns) {orc:dh} (horc:fe P ns orc) (hBk:na P ns) {A:gm} {N k:Nat}:∀{c:Code} {ac:aq},dI P ns A N c=some ac →
   ∀{n0:Nat} {ro:Option Nat},(ro=none∨ac.dB=true)→∀{st st':St} {e:aG} {G:Gh} {a:Act} {w:World} {Q:Exit→Act→World→Prop},bX orc k ac st=some (e,st')→dM (num ns) n0 N G st a w →
     (∀G' a' w',dM (num ns) n0 N G' st' a' w'→aZ G w G' w'→Q (fU e) a' w')→c.wpIn (je ro) 0 P Q a w
 | .skip,ac,hc,n0,ro,hro,st,st',e,G,a,w,Q,hev,hs,hq=>by
   simp [dI] at hc;subst hc
   simp [bX] at hev;obtain ⟨rfl,rfl⟩:=hev
   exact wpIn_skip (hq G a w hs (aZ.refl G w))
 | .region id ops draw,ac,hc,n0,ro,hro,st,st',e,G,a,w,Q,hev,hs,hq=>by
   simp only [dI] at hc
   split at hc
   · split at hc
     · rename_i hdr
       subst hdr
       split at hc
       · rename_i z p as hz
         rw [Option.ite_none_right_eq_some] at hc
         obtain ⟨⟨hl1,hl2⟩,hc⟩:=hc
         simp only [Option.some.injEq] at hc
         subst hc
         simp only [bX] at hev
         split at hev
         · rename_i st1 h1
           simp only [Option.some.injEq,Prod.mk.injEq] at hev
           obtain ⟨rfl,rfl⟩:=hev
           refine Hd hm hB horc hz hs h1 fun G' a' w' hs' he'=>?_
           have h2:=hs'.restrict ((look A.live id).getD [])
           rw [rO hl1 hl2] at h2
           exact hq _ a' w' h2 (he'.trans (aZ.aD _))
         · cases hev
       · cases hc
     · cases hc
   split at hc
   · rename_i as has
     have key:∀o ds ps live,ac=gU o (behind ds ps (.kb as live))→(draw=true→lz (ds.getD []) ops.toList as=true)→(Code.region id ops draw).wpIn (je ro) 0 P Q a w:=by
       rintro o ds ps live rfl hd
       have main:∀{st:St} {G1:Gh},bX orc k (behind ds ps (.kb as live)) st=some (e,st')→dM (num ns) n0 N G1 st a w→aZ G w G1 w→(Code.region id ops draw).wpIn (je ro) 0 P Q a w:=by
         intro st G1 hev hs he1
         obtain ⟨st1,h1,rfl,h3,rfl⟩:=oF hev
         refine qe hm hB horc has hd hs h1 h3 fun G' a' w' hs' he'=>?_
         obtain ⟨G2,h4,h5⟩:=kq (ps:=ps.getD []) (hs'.restrict live)
         exact hq G2 a' w' h4 (he1.trans (he'.trans ((aZ.aD live).trans h5)))
       cases o with
       | none=>exact main hev hs (aZ.refl G w)
       | some ts=>
         simp only [gU,bX] at hev
         obtain ⟨G2,h2,he2⟩:=gP (ts:=ts) hs
         exact main hev h2 he2
     have ahead:∀o1 o2 c,ac=mV o1 (gU o2 c)→(∀{st:St} {G1:Gh},bX orc k c st=some (e,st')→dM (num ns) n0 N G1 st a w→aZ G w G1 w→(Code.region id ops draw).wpIn (je ro) 0 P Q a w)→(Code.region id ops draw).wpIn (je ro) 0 P Q a w:=by
       rintro o1 o2 c rfl hm
       have h2:∀{st:St} {G1:Gh},bX orc k (gU o2 c) st=some (e,st')→dM (num ns) n0 N G1 st a w→aZ G w G1 w→(Code.region id ops draw).wpIn (je ro) 0 P Q a w:=by
         intro st G1 hev hs he1
         cases o2 with
         | none=>exact hm hev hs he1
         | some ts=>
           simp only [gU,bX] at hev
           obtain ⟨G2,h2,he2⟩:=gP (ts:=ts) hs
           exact hm hev h2 (he1.trans he2)
       cases o1 with
       | none=>exact h2 hev hs (aZ.refl G w)
       | some ts=>
         simp only [mV,bX] at hev
         obtain ⟨G2,h3,he2⟩:=fo (ts:=ts) hs
         exact h2 hev h3 he2
     split at hc
     · rename_i hdr
       split at hc
       · rename_i hok
         simp at hc
         exact key _ _ _ _ hc.symm (fun _=>hok)
       · simp at hc
     · rename_i hdr
       have hdr':draw=false:=by simpa using hdr
       subst hdr'
       split at hc
       · rename_i q hq'
         simp only [Option.some.injEq] at hc
         exact ahead _ _ _ hc.symm fun hev hs he1=>rP hB horc has hs hev fun G' a' w' h1 h2=>hq G' a' w' h1 (he1.trans h2)
       · simp only [Option.some.injEq] at hc
         refine ahead _ _ _ hc.symm fun hev hs he1=>?_
         obtain ⟨st1,h1,rfl,h3,rfl⟩:=oF hev
         refine qe hm hB horc has (fun h=>absurd h hdr) hs h1 h3 fun G' a' w' hs' he'=>?_
         obtain ⟨G2,h4,h5⟩:=kq (ps:=(look A.jj id).getD []) (hs'.restrict ((look A.live id).getD []))
         exact hq G2 a' w' h4 (he1.trans (he'.trans ((aZ.aD _).trans h5)))
   · simp at hc
 | .seq x y,ac,hc,n0,ro,hro,st,st',e,G,a,w,Q,hev,hs,hq=>by
   simp only [dI] at hc
   split at hc
   · rename_i ax ay hx hy
     simp at hc;subst hc
     have hrx:ro=none∨ax.dB=true:=hro.imp_right fun h=>by simp only [aq.dB,Bool.and_eq_true] at h;exact h.1
     have hry:ro=none∨ay.dB=true:=hro.imp_right fun h=>by simp only [aq.dB,Bool.and_eq_true] at h;exact h.2
     simp only [bX] at hev
     refine wpIn_seq ?_
     split at hev
     · rename_i st1 h1
       refine eY hm hB horc hBk hx hrx h1 hs fun G' a' w' hs' he'=>?_
       exact eY hm hB horc hBk hy hry hev hs' fun G'' a'' w'' hs'' he''=>hq G'' a'' w'' hs'' (he'.trans he'')
     · rename_i r hr
       refine eY hm hB horc hBk hx hrx hev hs fun G' a' w' hs' he'=>?_
       have:=hq G' a' w' hs' he'
       cases e with
       | normal=>exact absurd hev (hr st')
       | ret=>exact this
       | exit id=>exact this
   · simp at hc
 | .cond c x y,ac,hc,n0,ro,hro,st,st',e,G,a,w,Q,hev,hs,hq=>by
   simp only [dI] at hc
   split at hc
   · rename_i acnd ax ay hcn hx hy
     simp at hc;subst hc
     have hrx:ro=none∨ax.dB=true:=hro.imp_right fun h=>by simp only [aq.dB,Bool.and_eq_true] at h;exact h.1
     have hry:ro=none∨ay.dB=true:=hro.imp_right fun h=>by simp only [aq.dB,Bool.and_eq_true] at h;exact h.2
     simp only [bX] at hev
     split at hev
     · rename_i t ht
       have hrel:=yt hs.env hcn ht
       simp only [ah,dS] at hrel
       refine wpIn_cond hrel ?_
       cases t with
       | true=>exact eY hm hB horc hBk hx hrx (by simpa using hev) hs hq
       | false=>exact eY hm hB horc hBk hy hry (by simpa using hev) hs hq
     · simp at hev
   · simp at hc
 | .block id b,ac,hc,n0,ro,hro,st,st',e,G,a,w,Q,hev,hs,hq=>by
   simp only [dI,Option.map_eq_some_iff] at hc
   obtain ⟨ab,hb,rfl⟩:=hc
   have hrb:ro=none∨ab.dB=true:=hro.imp_right fun h=>by simpa only [aq.dB] using h
   refine wpIn_block ?_
   simp only [bX] at hev
   split at hev
   · rename_i id' st1 h1
     refine eY hm hB horc hBk hb hrb h1 hs fun G' a' w' hs' he'=>?_
     split at hev
     · rename_i zt
       simp at hev;obtain ⟨rfl,rfl⟩:=hev
       simp only [fU,Exit.inBlock,zt,if_true]
       exact hq G' a' w' hs' he'
     · rename_i zt
       simp at hev;obtain ⟨rfl,rfl⟩:=hev
       simp only [fU,Exit.inBlock,zt,if_false]
       exact hq G' a' w' hs' he'
   · rename_i r hr
     refine eY hm hB horc hBk hb hrb hev hs fun G' a' w' hs' he'=>?_
     have:=hq G' a' w' hs' he'
     cases e with
     | normal=>exact this
     | ret=>exact this
     | exit id'=>exact absurd hev (hr id' st')
 | .loop b,ac,hc,n0,ro,hro,st,st',e,G,a,w,Q,hev,hs,hq=>by
   simp only [dI,Option.map_eq_some_iff] at hc
   obtain ⟨ab,hb,rfl⟩:=hc
   have hrb:ro=none∨ab.dB=true:=hro.imp_right fun h=>by simpa only [aq.dB] using h
   simp only [bX] at hev
   refine wpIn_loop_rounds k ?_
   exact mE (fun h=>h.head _) (fun h1 h2 h3=>eY hm hB horc hBk hb hrb h1 h2 h3) k hev hs hq
 | .exit id,ac,hc,n0,ro,hro,st,st',e,G,a,w,Q,hev,hs,hq=>by
   simp [dI] at hc;subst hc
   simp [bX] at hev;obtain ⟨rfl,rfl⟩:=hev
   exact wpIn_exit (hq G a w hs (aZ.refl G w))
 | .ret,ac,hc,n0,ro,hro,st,st',e,G,a,w,Q,hev,hs,hq=>by
   simp [dI] at hc;subst hc
   simp [bX] at hev;obtain ⟨rfl,rfl⟩:=hev
   exact wpIn_ret (hq G a w hs (aZ.refl G w))
 | .rangeFunc f ps x y,ac,hc,n0,ro,hro,st,st',e,G,a,w,Q,hev,hs,hq=>by
   cases f with
   | tmp t=>
     simp only [dI] at hc
     split at hc
     · rename_i pi px gb hps JI
       split at hc
       · rename_i sz ag ax ay hbk hx hy
         split at hc
         · rename_i hok
           obtain ⟨nx,ny,hpi,hpx⟩:=hok
           simp at hc;subst hc
           have hro':ro=none:=hro.resolve_right (by simp [aq.dB])
           subst hro'
           have hps':ps=#[pi,px]:=by
             have:=congrArg List.toArray hps
             simpa using this
           subst hps'
           simp only [bX] at hev
           exact xT hB horc (hBk gb _ _ hbk)
             (fun h1 h2 h3=>eY hm hB horc hBk hx (.inr nx) h1 h2 h3) (fun h1 h2 h3=>eY hm hB horc hBk hy (.inr ny) h1 h2 h3) hpi hpx hev hs hq
         · simp at hc
       · simp at hc
     · simp at hc
   | _=>simp [dI] at hc
 | .scope _,ac,hc,n0,ro,hro,st,st',e,G,a,w,Q,hev,hs,hq=>by simp [dI] at hc
 | .label _,ac,hc,n0,ro,hro,st,st',e,G,a,w,Q,hev,hs,hq=>by simp [dI] at hc
 | .goto _,ac,hc,n0,ro,hro,st,st',e,G,a,w,Q,hev,hs,hq=>by simp [dI] at hc
 | .refuse _,ac,hc,n0,ro,hro,st,st',e,G,a,w,Q,hev,hs,hq=>by simp [dI] at hc
end
end Go.Ab
namespace Go.Ab
section
variable {P:Program} {ns:Names} {G:Gh} {w:World}
theorem oG:∀{l:List AV} {i t:Nat} {v:AV},look (bt i l) t=some v→i≤t∧l[t-i]?=some v
 | [],i,t,v,h=>by simp [bt,look] at h
 | x::l,i,t,v,h=>by
   simp only [bt,look] at h
   split at h
   · rename_i e;subst e;cases h;simp
   · rename_i hne
     obtain ⟨h1,h2⟩:=oG h
     refine ⟨by omega,?_⟩
     rw [show t-i=(t-(i+1))+1 from by omega]
     simpa using h2
theorem D0 {N:Nat} {args:List AV} {vs:List Value} (hr:ae (num ns) G args vs) (hN:args.length≤N) :
   jt (num ns) G N (bt 0 args) { tmps:=vs.toArray++Array.replicate (N-vs.toArray.size) undef,defers:=[] }:=by
 have hl:=hr.length
 refine ⟨by simp;omega,fun t x hx=>?_⟩
 obtain ⟨_,h2⟩:=oG hx
 simp only [Nat.sub_zero] at h2
 obtain ⟨v,h3,h4⟩:=hr.get h2
 refine ⟨v,?_,h4⟩
 rw [Array.getElem?_append_left (by have:=(List.getElem?_eq_some_iff.1 h3).1;simpa using this)]
 simpa using h3
theorem mF {n0 N:Nat} {st:St} {a:Act} (hs:dM (num ns) n0 N G st a w) {F:ResultVar→Sem Value} (hF1:∀t,F (.tmp t)=pure (a.tmps.getD t undef)) (hF2:∀ad t,F (.cell ad t)=(do loadVar t (←asAddr (a.tmps.getD ad undef)))):∀{rvs:List ResultVar} {rs:List lx} {xs:List AV},bB (yq P) rvs=some rs→dj st rs=some xs →
   ∃vs,(rvs.mapM F).run P w=.ok vs w∧ae (num ns) G xs vs
 | [],rs,xs,hc,hx=>by
   simp [bB] at hc;subst hc
   simp [dj] at hx;subst hx
   exact ⟨[],by simp,by simp [ae]⟩
 | r::rvs,rs,xs,hc,hx=>by
   simp only [bB] at hc
   split at hc
   · rename_i ar ars h1 h2
     simp at hc;subst hc
     simp only [dj] at hx
     split at hx
     · rename_i v vs' g1 g2
       simp at hx;subst hx
       obtain ⟨us,k1,k2⟩:=mF hs hF1 hF2 h2 g2
       have one:∃u,(F r).run P w=.ok u w∧ah (num ns) G v u:=by
         cases r with
         | tmp t=>
           simp [yq] at h1;subst h1
           simp only [lZ] at g1
           obtain ⟨u,e1,e2⟩:=hs.env.env t v g1
           exact ⟨u,by rw [hF1];simp [e1],e2⟩
         | cell ad t=>
           simp only [yq] at h1
           split at h1
           · rename_i sz ag hsz hag
             simp at h1;subst h1
             simp only [lZ] at g1
             split at g1
             · rename_i d e1
               split at g1
               · rename_i cs e2
                 simp only [Option.ite_none_right_eq_some] at g1
                 obtain ⟨rfl,g1⟩:=g1
                 obtain ⟨u,f1,f2⟩:=hs.env.env _ _ e1
                 simp only [ah] at f2
                 obtain ⟨b,hp,rfl⟩:=f2
                 obtain ⟨b',hp',hblk,_⟩:=hs.inv.bM _ _ e2
                 rw [hp] at hp';cases hp'
                 obtain ⟨_,c,ty,hh,hrel⟩:=hblk
                 obtain ⟨u,q1,q2⟩:=fZ (w:=w) hsz hag g1 hrel (ib hh)
                 exact ⟨u,by rw [hF2];simp [f1,asAddr,q1],q2⟩
               · cases g1
             · rename_i s e1
               split at g1
               · rename_i cs e2
                 split at g1
                 · cases g1
                 · rename_i hm
                   obtain ⟨u,f1,f2⟩:=hs.env.env _ _ e1
                   simp only [ah] at f2
                   obtain ⟨b,hp,rfl⟩:=f2
                   obtain ⟨b',hp',hblk,_⟩:=hs.inv.bS _ _ e2
                   rw [hp] at hp';cases hp'
                   obtain ⟨_,c,ty,vs,suf,hh,_,hsp,hrel⟩:=hblk.cells (by simpa using hm)
                   obtain ⟨u,q1,q2⟩:=fZ (w:=w) hsz hag g1 hrel (kG hh hsp)
                   exact ⟨u,by rw [hF2];simp [f1,asAddr,q1],q2⟩
               · cases g1
             · cases g1
           · simp at h1
       obtain ⟨u,o1,o2⟩:=one
       refine ⟨u::us,?_,?_⟩
       · rw [List.mapM_cons]
         simp only [Sem.run_bind]
         rw [o1]
         simp only [Result.andThen_ok]
         rw [k1]
         rfl
       · simp only [ae];exact ⟨u,us,rfl,o2,k2⟩
     · simp at hx
   · simp at hc
theorem kr {G':Gh} {sh:Sh} {ks:List Nat} (hle:G.le G') (hf:ie ns G G' sh ks) (hl:∀(s:Nat) (cells:List AV),sh[s]?=some (some cells)→cells.all aJ=true)
   {x:AV} {v:Value} (ha:∀s∈dq x,s∈ks) (h:ah (num ns) G x v):ah (num ns) G' (nq sh x) v:=by
 unfold nq
 split
 · rename_i p hp
   simp only [ah]
   exact nJ hle hf hl ha hp h
 · exact h.mono hle
theorem D1 {G':Gh} {sh:Sh} {ks:List Nat} (hle:G.le G') (hf:ie ns G G' sh ks) (hl:∀(s:Nat) (cells:List AV),sh[s]?=some (some cells)→cells.all aJ=true)
   {x:AV} {v:Value} (ha:aJ x=true→∀s∈dq x,s∈ks) (h:ah (num ns) G x v):ah (num ns) G' (mN sh x) v:=by
 unfold mN
 split
 · exact h.mono hle
 · split
   · rename_i hl'
     exact kr hle hf hl (ha hl') h
   · exact h.mono hle
theorem qx {G':Gh} {sh:Sh} {ks:List Nat} (hle:G.le G') (hf:ie ns G G' sh ks) (hl:∀(s:Nat) (cells:List AV),sh[s]?=some (some cells)→cells.all aJ=true) :
   ∀{cs:List AV} {vs:List Value},(∀s∈dq (.agg cs),s∈ks)→ae (num ns) G cs vs→ae (num ns) G' (cs.map (mN sh)) vs
 | [],vs,_,h=>by simpa [ae] using h
 | c::cs,vs,ha,h=>by
   simp only [ae] at h
   obtain ⟨v,r,e,e1,e2⟩:=h
   simp only [List.map_cons,ae]
   refine ⟨v,r,e,D1 hle hf hl (fun hb s hs=>ha s ?_) e1,qx hle hf hl (fun s hs=>ha s ?_) e2⟩
   · simp only [dq,List.flatMap_cons,List.mem_append]
     left
     cases c<;>simp_all [dq,aJ]
   · simp only [dq,List.flatMap_cons,List.mem_append] at hs ⊢
     exact .inr hs
theorem D2 {G':Gh} {sh:Sh} {ks:List Nat} (hle:G.le G') (hf:ie ns G G' sh ks) (hl:∀(s:Nat) (cells:List AV),sh[s]?=some (some cells)→cells.all aJ=true)
   {x:AV} {v:Value} (ha:∀s∈dq x,s∈ks) (h:ah (num ns) G x v):ah (num ns) G' (nr sh x) v:=by
 unfold nr
 split
 · exact h.mono hle
 · exact h.mono hle
 · simp only [ah] at h ⊢
   obtain ⟨vs,e,r⟩:=h
   exact ⟨vs,e,qx hle hf hl ha r⟩
 · exact kr hle hf hl ha h
theorem ku {G':Gh} {sh:Sh} {ks:List Nat} {F:Sh→AV→AV} (hF:∀{x:AV} {v:Value},(∀s∈dq x,s∈ks)→ah (num ns) G x v→ah (num ns) G' (F sh x) v) :
   ∀{xs:List AV} {vs:List Value},(∀s∈xs.flatMap dq,s∈ks)→ae (num ns) G xs vs→ae (num ns) G' (xs.map (F sh)) vs
 | [],vs,_,h=>by simpa [ae] using h
 | x::xs,vs,ha,h=>by
   simp only [ae] at h
   obtain ⟨v,r,e,e1,e2⟩:=h
   simp only [List.flatMap_cons,List.mem_append] at ha
   simp only [List.map_cons,ae]
   exact ⟨v,r,e,hF (fun s hs=>ha s (.inl hs)) e1,ku hF (fun s hs=>ha s (.inr hs)) e2⟩
theorem x9 {G':Gh} {sh:Sh} {ks:List Nat} {aD kst:Bool} (hle:G.le G') (hf:ie ns G G' sh ks) (hl:∀(s:Nat) (cells:List AV),sh[s]?=some (some cells)→cells.all aJ=true)
   {xs:List AV} {vs:List Value} (ha:∀s∈xs.flatMap dq,s∈ks) (h:ae (num ns) G xs vs):ae (num ns) G' (bG aD kst sh xs) vs:=by
 unfold bG
 split
 · split
   · exact ae.mono hle h
   · exact ku (D2 hle hf hl) ha h
 · exact ku (kr hle hf hl) ha h
theorem x_ {xs:List AV} {vs:List Value} (h:ae (num ns) G xs vs):cj (num ns) G xs (if h:vs.toArray.size=1 then vs.toArray[0] else .tuple vs.toArray):=by
 unfold cj
 split
 · rename_i r
   simp only [ae] at h
   obtain ⟨v,r',e,e1,e2⟩:=h
   subst e2;subst e
   simpa using e1
 · rename_i hn
   have hl:=h.length
   rw [dif_neg]
   · exact ⟨vs,rfl,h⟩
   · intro e
     simp at e
     rw [e] at hl
     cases xs with
     | nil=>simp at hl
     | cons x xs=>
       cases xs with
       | nil=>exact hn x rfl
       | cons _ _=>simp at hl
end
mutual
theorem oH {ρ:bh} {G G':Gh} {n:Nat} (hK:G.K.le G'.K) (hs:∀s b,s<n→G.sm s=some b→G'.sm s=some b):∀{x:AV} {v:Value},bm x=true→au n x=true→ah ρ G x v→ah ρ G' x v
 | .pv p,_,_,_,h=>by simp only [ah] at h ⊢;exact h.mono hK
 | .aO s o,_,_,hr,h=>by simp [au] at hr;simp only [ah] at h ⊢;obtain ⟨b,e,r⟩:=h;exact ⟨b,hs _ _ hr e,r⟩
 | .aY s _ n _,_,_,hr,h=>by simp [au] at hr;simp only [ah] at h ⊢;obtain ⟨b,c,e,r⟩:=h;exact ⟨b,c,hs _ _ hr e,r⟩
 | .eN,_,_,_,h=>by simpa only [ah] using h
 | .d_ s,_,_,hr,h=>by simp [au] at hr;simp only [ah] at h ⊢;obtain ⟨b,e,r⟩:=h;exact ⟨b,hs _ _ hr e,r⟩
 | .mM ..,_,hp,_,_=>by simp [bm] at hp
 | .cT _,_,_,_,h=>by simp only [ah] at h
 | .fn g cap,_,hp,hr,h=>by
   simp only [bm] at hp
   simp only [au] at hr
   simp only [ah] at h ⊢
   obtain ⟨f,vs,e1,e2,r⟩:=h
   exact ⟨f,vs,e1,e2,lT hK hs hp hr r⟩
 | .un,_,hp,_,_=>by simp [bm] at hp
 | .cz _,_,_,_,h=>by simp only [ah] at h ⊢;obtain ⟨b,l,e,r⟩:=h;exact ⟨b,l,e,r.mono hK⟩
 | .own _ _,_,hp,_,_=>by simp [bm] at hp
 | .agg _,_,hp,hr,h=>by
   simp only [bm] at hp
   simp only [au] at hr
   simp only [ah] at h ⊢
   obtain ⟨vs,e,r⟩:=h
   exact ⟨vs,e,lT hK hs hp hr r⟩
 | .lr _,_,hp,_,_=>by simp [bm] at hp
 | .bg _ _,_,hp,_,_=>by simp [bm] at hp
 | .cS _,_,hp,_,_=>by simp [bm] at hp
theorem lT {ρ:bh} {G G':Gh} {n:Nat} (hK:G.K.le G'.K) (hs:∀s b,s<n→G.sm s=some b→G'.sm s=some b):∀{xs:List AV} {vs:List Value},bm.gu xs=true→au.bK n xs=true→ae ρ G xs vs→ae ρ G' xs vs
 | [],_,_,_,h=>by simpa only [ae] using h
 | x::xs,_,hp,hr,h=>by
   simp only [bm.gu,Bool.and_eq_true] at hp
   simp only [au.bK,Bool.and_eq_true] at hr
   simp only [ae] at h ⊢
   obtain ⟨v,r,e,e1,e2⟩:=h
   exact ⟨v,r,e,oH hK hs hp.1 hr.1 e1,lT hK hs hp.2 hr.2 e2⟩
end
section
variable {P:Program} {ns:Names} {G:Gh} {w:World}
theorem oI {ρ:bh} {G':Gh} {n:Nat} (hK:G.K.le G'.K) (hs:∀s b,s<n→G.sm s=some b→G'.sm s=some b) (ht:∀τ t,G.tk τ=some t→G'.tk τ=some t):∀{xs:List AV} {vs:List Value},dO xs=true→au.bK n xs=true→ae ρ G xs vs→ae ρ G' xs vs
 | [],_,_,_,h=>by simpa only [ae] using h
 | x::xs,_,hp,hr,h=>by
   simp only [dO,Bool.and_eq_true] at hp
   simp only [au.bK,Bool.and_eq_true] at hr
   simp only [ae] at h ⊢
   obtain ⟨v,r,e,e1,e2⟩:=h
   refine ⟨v,r,e,?_,oI hK hs ht hp.2 hr.2 e2⟩
   cases x with
   | own l τ=>
     simp only [ah] at e1 ⊢
     obtain ⟨t,a1,a2,a3,a4⟩:=e1
     exact ⟨t,ht _ _ a1,a2,a3.mono hK,fun hl=>⟨(a4 hl).1,EF (a4 hl).2 fun ⟨b,o,e,r⟩=>⟨b,o,e,Row.mono hK _ _ _ _ r⟩⟩⟩
   | _=>exact oH hK hs (show bm _=true from hp.1) hr.1 e1
theorem BU {ρ:bh} {G':Gh} {n:Nat} (hK:G.K.le G'.K) (hs:∀s b,s<n→G.sm s=some b→G'.sm s=some b) (ht:∀τ t,G.tk τ=some t→G'.tk τ=some t) {x:AV} {v:Value} (hp:a9 x=true) (hr:au n x=true) (h:ah ρ G x v):ah ρ G' x v:=by
 cases x with
 | own l τ=>
   simp only [ah] at h ⊢
   obtain ⟨t,e1,e2,e3,e4⟩:=h
   exact ⟨t,ht _ _ e1,e2,e3.mono hK,fun hl=>⟨(e4 hl).1,EF (e4 hl).2 fun ⟨b,o,e,r⟩=>⟨b,o,e,Row.mono hK _ _ _ _ r⟩⟩⟩
 | agg cs=>
   simp only [au] at hr
   simp only [ah] at h ⊢
   obtain ⟨vs,e,r⟩:=h
   exact ⟨vs,e,oI hK hs ht (by simpa [a9] using hp) hr r⟩
 | _=>exact oH hK hs (show bm _=true from hp) hr h
theorem kx {ρ:bh} {G':Gh} {n:Nat} (hK:G.K.le G'.K) (hs:∀s b,s<n→G.sm s=some b→G'.sm s=some b) (ht:∀τ t,G.tk τ=some t→G'.tk τ=some t):∀{xs:List AV} {vs:List Value},xs.all a9=true→xs.all (au n)=true→ae ρ G xs vs→ae ρ G' xs vs
 | [],_,_,_,h=>by simpa only [ae] using h
 | x::xs,_,hp,hr,h=>by
   simp only [List.all_cons,Bool.and_eq_true] at hp hr
   simp only [ae] at h ⊢
   obtain ⟨v,r,e,e1,e2⟩:=h
   exact ⟨v,r,e,BU hK hs ht hp.1 hr.1 e1,kx hK hs ht hp.2 hr.2 e2⟩
def Gh.bare (G:Gh):Gh:={ G with pm:=fun _=>none,role:=fun b=>match G.role b with | .jh _=>.cP | r=>r }
theorem Inv.bare {mem:List (Nat×List AV)} {sh:Sh} {ts:al} (hi:Inv (num ns) G w mem sh ts):Inv (num ns) G.bare w [] sh ts where
 known:=hi.known
 aK:=fun b o v hk=>by
   rcases hi.aK b o v hk with h | ⟨τ,h⟩
   · exact .inl (by simp [Gh.bare,h])
   · exact .inr ⟨τ,by simp [Gh.bare,h]⟩
 fresh:=fun b hb=>by simp [Gh.bare,hi.fresh b hb]
 bM:=fun d cells h=>by simp [look] at h
 eR:=fun d b h=>by simp [Gh.bare] at h
 bS:=fun s cells hs=>by
   obtain ⟨b,e1,e2,e3,e4⟩:=hi.bS s cells hs
   obtain ⟨hr,o,hh,hrel⟩:=e2
   exact ⟨b,e1,⟨by simp [Gh.bare,hr],o,hh,hrel.to (fun _ _ _ h=>h) (fun _ e=>e) (fun _ r=>gM (G:=G) (G':=G.bare) (aP.le_refl _) (fun _ _ h=>h) (fun _ _ h=>h) (gh e3) r)⟩,e3,e4⟩
 dC:=hi.dC
 bT:=fun τ n h=>by
   obtain ⟨t,e1,e2,e3⟩:=hi.bT τ n h
   refine ⟨t,e1,e2,e3.cap,e3.zero,fun hlt=>?_⟩
   obtain ⟨b,o,c,ty,f1,f2,f3,f4,f5⟩:=e3.spare hlt
   exact ⟨b,o,c,ty,f1,by simp [Gh.bare,f2],f3,f4,f5⟩
 dD:=hi.dD
 jo:=fun b c hb=>⟨by simp [Gh.bare,(hi.jo b c hb).1],(hi.jo b c hb).2⟩
def Gh.j_ (G:Gh) (n:Nat):Gh:={ G with sm:=fun s=>if s<n then G.sm s else none }
theorem Inv.j_ {sh:Sh} {ts:al} (hi:Inv (num ns) G w [] sh ts) (n:Nat):Inv (num ns) (G.j_ n) w [] (sh.take n) ts where
 known:=hi.known
 aK:=hi.aK
 fresh:=hi.fresh
 bM:=fun d cells h=>by simp [look] at h
 eR:=hi.eR
 bS:=fun s cells hs=>by
   rw [List.getElem?_take] at hs
   split at hs
   · rename_i hlt
     obtain ⟨b,e1,e2,e3,e4⟩:=hi.bS s cells hs
     obtain ⟨hr,o,hh,hrel⟩:=e2
     exact ⟨b,by simp [Gh.j_,hlt,e1],⟨hr,o,hh,hrel.to (fun _ _ _ h=>h) (fun _ e=>e) (fun _ r=>kx (G:=G) (G':=G.j_ n) (n:=s+1) (aP.le_refl G.K) (fun s' b' hs' h=>by simp only [Gh.j_];rw [if_pos (by omega)];exact h) (fun _ _ h=>h) (gh e3) e4 r)⟩,e3,e4⟩
   · simp at hs
 dC:=fun s b h=>by
   simp only [Gh.j_] at h
   split at h
   · have:=hi.dC s b h;simp;omega
   · simp at h
 bT:=fun τ n h=>by
   obtain ⟨t,e1,e2,e3⟩:=hi.bT τ n h
   exact ⟨t,e1,e2,e3.cap,e3.zero,e3.spare⟩
 dD:=hi.dD
 jo:=hi.jo
theorem Inv.shut {mem:List (Nat×List AV)} {sh:Sh} {aa:al} {D:Nat} {x:Option (List Deferred)} (hi:Inv (num ns) G w mem sh aa) (hD:w.heap[D]?=some (.deferred x)) :
   Inv (num ns) G (w.putObj D (.deferred none)) mem sh aa:=by
 have hne:∀{b:Nat} {c:Array Value} {t:TypeId},w.heap[b]?=some (.cells c t (0,0))→(w.putObj D (.deferred none)).heap[b]?=some (.cells c t (0,0)):=by
   intro b c t h
   rw [World.putObj_heap_other]
   · exact h
   · rintro rfl;rw [hD] at h;cases h
 have hsize:(w.putObj D (.deferred none)).heap.size=w.heap.size:=by simp [World.putObj]
 refine { hi with known:=?_,fresh:=?_,bM:=?_,bS:=?_,bT:=?_,jo:=?_ }
 · intro b o v hk
   have h:=hi.known b o v hk
   rw [←h]
   have:b≠D:=by rintro rfl;simp [World.cell?,hD] at h
   simp only [World.cell?,World.putObj_heap_other this]
 · intro b hb;exact hi.fresh b (by omega)
 · intro k cs hk
   obtain ⟨b,e1,⟨e2,c,t,e3,e4⟩,e5⟩:=hi.bM k cs hk
   exact ⟨b,e1,⟨e2,c,t,hne e3,e4⟩,e5⟩
 · intro k cs hk
   obtain ⟨b,e1,⟨e2,o,e3,e4⟩,e5⟩:=hi.bS k cs hk
   refine ⟨b,e1,⟨e2,o,?_,e4⟩,e5⟩
   rw [World.putObj_heap_other]
   · exact e3
   · rintro rfl
     rw [hD] at e3;cases e3
     rcases e4 with ⟨_,_,_,_,h,_⟩ | ⟨_,_,_,h,_⟩<;>cases h
 · intro τ n hn
   obtain ⟨t,e1,e2,e3⟩:=hi.bT τ n hn
   refine ⟨t,e1,e2,e3.cap,e3.zero,fun hlt=>?_⟩
   obtain ⟨b,o,c,ty,f1,f2,f3,f4,f5⟩:=e3.spare hlt
   exact ⟨b,o,c,ty,f1,f2,hne f3,f4,f5⟩
 · intro b c hb
   obtain ⟨h1,t',z,h2⟩:=hi.jo b c hb
   refine ⟨h1,t',z,?_⟩
   rw [World.putObj_heap_other]
   · exact h2
   · rintro rfl;rw [hD] at h2;cases h2
theorem aZ.shut {G':Gh} {w':World} {D:Nat} (he:aZ G w G' w') (hD:w.heap.size≤D):aZ G w G' (w'.putObj D (.deferred none)):=
 { he with
   size:=by simpa [World.putObj] using he.size
   os:=by simpa [World.putObj] using he.os
   tape:=by simpa [World.putObj] using he.tape
   output:=by simpa [World.putObj] using he.output
   cP:=fun b hb hr=>by
     obtain ⟨h1,h2⟩:=he.cP b hb hr
     exact ⟨h1,by rw [World.putObj_heap_other (by omega)];exact h2⟩ }
theorem mG {fn:Func} {tmps:Array Value} {R:Ending→World→Prop} {mem:List (Nat×List AV)} {sh:Sh} {aa:al} {G':Gh}:∀(Ds:List Nat) (w':World),Inv (num ns) G' w' mem sh aa→aZ G w G' w'→Ds.Nodup →
   (∀D∈Ds,w.heap.size≤D∧w'.heap[D]?=some (.deferred (some []))) →
   (∀w'',Inv (num ns) G' w'' mem sh aa→aZ G w G' w''→∃v,(results fn tmps).run P w''=.ok v w''∧R (.returned v) w'') →
   LeavesInM Fence.wide 0 P fn tmps R (Ds.map (fun D=>{ target:=.collected D,args:=#[] })) .returning w'
 | [],w',hi,he,_,_,h=>h w' hi he
 | D::Ds,w',hi,he,hn,hD,h=>by
   obtain ⟨h1,h2⟩:=hD D (by simp)
   refine ⟨by simp,.inl ⟨D,_,rfl,run_takeDeferred h2,?_⟩⟩
   simp only [List.nodup_cons] at hn
   refine mG Ds _ (hi.shut h2) (he.shut h1) hn.2 (fun E hE=>?_) h
   obtain ⟨g1,g2⟩:=hD E (by simp [hE])
   refine ⟨g1,?_⟩
   rw [World.putObj_heap_other]
   · exact g2
   · rintro rfl;exact hn.1 hE
theorem oJ (hm:P.follows .mixedOrders=true) (hB:dZ P ns) (hBk:na P ns) {orc:dh} (horc:fe P ns orc) {A:gm} {k f:Nat} {aD:Bool} {fn:Func} {af:aw} (hf:P.funcs[f]?=some fn) (hc:l0 P ns A fn=some af)
   {args rs:List AV} {vs:List Value} {sh sh':Sh} {ts ts':al} (hi:Inv (num ns) G w [] sh ts) (hr:ae (num ns) G args vs) (hN:args.length≤af.ntmps) (h:bu orc k aD af args sh ts=some (rs,sh',ts')) :
   (Calls P f vs.toArray w fun e w'=>∃v G',e=.returned v∧cj (num ns) G' rs v∧Inv (num ns) G' w' [] sh' ts'∧aZ G w G' w')∧rs.all a9=true:=by
 unfold l0 at hc
 split at hc
 · rename_i c ars uw eO
   simp only [Option.ite_none_right_eq_some,Option.map_eq_some_iff] at hc
   obtain ⟨_,ac,hcc,rfl⟩:=hc
   unfold bu at h
   split at h
   · rename_i e st hev
     simp only [Option.ite_none_right_eq_some] at h
     obtain ⟨he,h⟩:=h
     split at h
     · rename_i xs hxs
       simp only [Option.ite_none_right_eq_some] at h
       obtain ⟨hpass,h⟩:=h
       let kst:=A.ks
       let shk:Sh:=dH aD kst st.sh xs
       let F':Sh:=if (bG aD kst st.sh xs).all (au sh.length)=true then shk.take sh.length else shk
       have h:some ((cf st.aa (bG aD kst st.sh xs) F').1,(cf st.aa (bG aD kst st.sh xs) F').2.1,(cf st.aa (bG aD kst st.sh xs) F').2.2.2)=some (rs,sh',ts'):=h
       simp only [Option.some.injEq,Prod.mk.injEq] at h
       obtain ⟨I',hsh,hts⟩:=h
       have hpass':rs.all a9=true:=by rw [←I'];exact fG hpass
       refine ⟨?_,hpass'⟩
       refine callsIn_wide (n:=0).1 (callsIn_of_wp_marks hf uw trivial ?_ rfl)
       have hs0:dM (num ns) w.heap.size fn.ntmps G { env:=bt 0 args,mem:=[],sh,aa:=ts } { tmps:=vs.toArray++Array.replicate (fn.ntmps-vs.toArray.size) undef,defers:=[] } w:=⟨D0 hr hN,hi,Nat.le_refl _,[],rfl,by simp,by simp⟩
       refine eY (ro:=none) hm hB horc hBk hcc (.inl rfl) hev hs0 fun G' a' w1 hs1 hevo1=>?_
       have key:LeavesInM Fence.wide 0 P fn a'.tmps (fun e w'=>∃v G',e=.returned v∧cj (num ns) G' rs v∧Inv (num ns) G' w' [] sh' ts'∧aZ G w G' w') a'.defers .returning w1:=by
         obtain ⟨m0,Ds,m1,m2,m3⟩:=hs1.marks
         rw [m1]
         refine mG Ds w1 hs1.inv hevo1 m2 (fun D hD=>⟨(m3 D hD).1,(m3 D hD).2.2.2⟩) ?_
         intro w' hi' hevo
         have hs':dM (num ns) w.heap.size fn.ntmps G' st { tmps:=a'.tmps,defers:=[] } w':=⟨⟨hs1.env.size,hs1.env.env⟩,hi',hevo.size,[],rfl,by simp,by simp⟩
         obtain ⟨us,u1,u2⟩:=mF (P:=P) hs' (F:=fun | .tmp t=>pure (a'.tmps.getD t undef) | .cell ad t=>do loadVar t (←asAddr (a'.tmps.getD ad undef))) (fun _=>rfl) (fun _ _=>rfl) eO hxs
         refine ⟨(if h:us.toArray.size=1 then us.toArray[0] else .tuple us.toArray),?_,?_⟩
         · unfold results
           rw [Array.mapM_eq_mapM_toList]
           simp only [Sem.run_bind,Sem.run_map]
           erw [u1]
           rfl
         · obtain ⟨G1,k1,k2,k3,hout⟩:∃G1,Inv (num ns) G1 w' st.mem shk st.aa∧G'.le G1∧aZ G' w' G1 w'∧ae (num ns) G1 (bG aD kst st.sh xs) us:=by
             by_cases hkk:(aD && kst)=true
             · refine ⟨G',?_,Gh.le_refl _,aZ.refl _ _,?_⟩
               · have:shk=st.sh:=by simp only [shk,dH,hkk,if_true]
                 rw [this];exact hs'.inv
               · have:bG aD kst st.sh xs=xs:=by
                   simp only [Bool.and_eq_true] at hkk
                   simp only [bG,hkk.1,hkk.2,if_true]
                 rw [this];exact u2
             · obtain ⟨G1,k1,k2,k3,k4,k5⟩:=Inv.kill (xs.flatMap dq) hs'.inv
               refine ⟨G1,?_,k2,k3,x9 (aD:=aD) k2 k4 hs'.inv.nK (fun s hs=>hs) u2⟩
               have:shk=ct st.sh xs:=by
                 simp only [shk,dH]
                 rw [if_neg hkk]
               rw [this];exact k1
           have hbare:=gM (G:=G1) (G':=G1.bare) (aP.le_refl _) (fun _ _ h=>h) (fun _ _ h=>h) hpass hout
           have k1b:=k1.bare
           have hevo0:=hevo.trans k3
           obtain ⟨G2,i2,r2,e2⟩:∃G2,Inv (num ns) G2 w' [] F' st.aa∧ae (num ns) G2 (bG aD kst st.sh xs) us∧aZ G w G2 w':=by
             have bareEvo:aZ G w G1.bare w':={
               size:=hevo0.size,os:=hevo0.os,tape:=hevo0.tape,output:=hevo0.output,K:=hevo0.K,sm:=hevo0.sm,
               cP:=fun b hb hr=>⟨by simp [Gh.bare,(hevo0.cP b hb hr).1],(hevo0.cP b hb hr).2⟩
               fQ:=fun b τ hb hr=>by
                 rcases hevo0.fQ b τ hb hr with h | ⟨τ',h⟩
                 · exact .inl (by simp [Gh.bare,h])
                 · exact .inr ⟨τ',by simp [Gh.bare,h]⟩
               eS:=hevo0.eS }
             by_cases href:(bG aD kst st.sh xs).all (au sh.length)=true
             · have hshd:F'=shk.take sh.length:=if_pos href
               rw [hshd]
               refine ⟨G1.bare.j_ sh.length,k1b.j_ sh.length,kx (G:=G1.bare) (G':=G1.bare.j_ sh.length) (n:=sh.length) (aP.le_refl _) (fun s b hs h=>by simp only [Gh.j_];rw [if_pos hs];exact h) (fun _ _ h=>h) hpass href hbare,?_⟩
               exact { size:=bareEvo.size,os:=bareEvo.os,tape:=bareEvo.tape,output:=bareEvo.output,K:=bareEvo.K,
                       sm:=fun s b hsb=>by
                         have:=hi.dC s b hsb
                         show (if s<sh.length then G1.sm s else none)=some b
                         rw [if_pos this];exact bareEvo.sm s b hsb
                       cP:=bareEvo.cP,fQ:=bareEvo.fQ,eS:=bareEvo.eS }
             · have hshd:F'=shk:=if_neg href
               rw [hshd]
               exact ⟨G1.bare,k1b,hbare,bareEvo⟩
           obtain ⟨m,tks,hNS,hto,hrel⟩:=i2.Cm hpass r2
           rw [I'] at hrel
           rw [hsh,hts] at hto
           exact ⟨_,G2.to m tks,rfl,x_ hrel,hto,e2.to m tks⟩
       cases e with
       | normal=>exact key
       | ret=>exact key
       | exit id=>simp at he
     · simp at h
   · simp at h
 · simp at hc
theorem pO {orc:dh} {k:Nat} {aD:Bool} {af:aw} {args rs:List AV} {sh sh':Sh} {ts ts':al} (h:bu orc k aD af args sh ts=some (rs,sh',ts')):rs.all a9=true:=by
 unfold bu at h
 split at h
 · split at h
   · split at h
     · simp only [Option.ite_none_right_eq_some] at h
       obtain ⟨hp,h⟩:=h
       have e:=congrArg Prod.fst (Option.some.inj h)
       dsimp only at e
       rw [←e];exact fG hp
     · simp at h
   · simp at h
 · simp at h
structure Impl (P:Program) (ns:Names) (AP:Nat→Option aw):Prop where
 mixed:P.follows .mixedOrders=true
 funcs:∀f g,ns.of f=some g→(∃fn A af,P.funcs[f]?=some fn∧l0 P ns A fn=some af∧AP g=some af) ∨
   ((∃fn b,P.funcs[f]?=some fn∧fn.body=some b∧fn.name ≠ "runtime.NumGoroutine") ∧
     (AP g=none∨∃af pf,AP g=some af∧af.ng=some pf∧af.body=.exit 0∧∀orc,fe P ns orc→∀cM rs,pf.f orc.p cM=some rs→Ga P ns f cM rs))
 yn:na P ns
 He:∀g sz bytes f,look ns.cl g=some (sz,bytes)→ns.of f=some g→Nonempty (oB P ns f sz bytes)
theorem Impl.D3 {AP:Nat→Option aw} (h:Impl P ns AP):dZ P ns:=by
 intro f g hg
 rcases h.funcs f g hg with ⟨fn,A,af,h1,h2,_⟩ | ⟨⟨fn,b,h1,h2,h3⟩,_⟩
 · unfold l0 at h2
   split at h2
   · rename_i b rs hb _
     simp only [Option.ite_none_right_eq_some] at h2
     obtain ⟨⟨_,hn⟩,_⟩:=h2
     exact ⟨fn,b,h1,hb,by simpa using hn⟩
   · simp at h2
 · exact ⟨fn,b,h1,h2,h3⟩
theorem ya {A:gm} {fn:Func} {af:aw} (h:l0 P ns A fn=some af):af.ng=none:=by
 unfold l0 at h
 split at h
 · simp only [Option.ite_none_right_eq_some,Option.map_eq_some_iff] at h
   obtain ⟨_,_,_,rfl⟩:=h
   rfl
 · simp at h
theorem oK:∀{rs:List AV} {ps:List PV},dX rs=some ps→rs=ps.map .pv
 | [],ps,h=>by simp [dX] at h;subst h;rfl
 | x::rs,ps,h=>by
   cases x with
   | pv p=>
     simp only [dX,Option.map_eq_some_iff] at h
     obtain ⟨qs,h1,rfl⟩:=h
     simp [oK h1]
   | _=>simp [dX] at h
theorem mH:∀{ps:List PV} {vs:List Value},ae (num ns) G (ps.map .pv) vs→iq G.K ps vs
 | [],vs,h=>by simp only [List.map_nil,ae] at h;exact h
 | p::ps,vs,h=>by
   simp only [List.map_cons,ae] at h
   obtain ⟨v,r,e,e1,e2⟩:=h
   simp only [ah] at e1
   exact ⟨v,r,e,e1,mH e2⟩
theorem BV {ps:List PV} {v:Value} (h:cj (num ns) G (ps.map .pv) v):jA G.K ps v:=by
 unfold jA
 split
 · rename_i p
   simp only [List.map_cons,List.map_nil,cj,ah] at h
   exact h
 · rename_i hn
   unfold cj at h
   split at h
   · rename_i r e
     cases ps with
     | nil=>simp at e
     | cons q qs=>
       cases qs with
       | nil=>exact absurd rfl (hn q)
       | cons _ _=>simp at e
   · obtain ⟨vs,e,h⟩:=h
     exact ⟨vs,e,mH h⟩
theorem qy {AP:Nat→Option aw} (hI:Impl P ns AP) (k:Nat):∀n,fe P ns (run AP k n)
 | 0=>⟨fun g f cM rs _ h=>by simp [run] at h,fun g f args ts rs sh sh' ts' _ _ h=>by simp [run] at h,fun g sz by_ f h1 h2=>(hI.He g sz by_ f h1 h2).elim uz⟩
 | n+1=>by
   have ih:=qy hI k n
   refine ⟨fun g f cM rs hg h=>?_,fun g f args ts rs sh sh' ts' hg hp h=>?_,ih.c⟩
   · rcases hI.funcs f g hg with ⟨fn,A,af,h1,h2,h3⟩ | ⟨_,h3 | ⟨af,pf,h3,h4,_,h5⟩⟩
     · simp only [run,h3,ya h2,Option.ite_none_right_eq_some] at h
       obtain ⟨⟨_,hN⟩,h⟩:=h
       split at h
       · rename_i xs x2 hb
         obtain ⟨sh',ts'⟩:=x2
         have hxs:=oK h
         subst hxs
         intro K w vs hpin hK hr
         let G0:Gh:={ K,role:=fun _=>.cP,pm:=fun _=>none,sm:=fun _=>none,tk:=fun _=>none }
         have hi:Inv (num ns) G0 w [] [] []:={
           known:=hK,aK:=fun _ _ _ _=>.inl rfl,fresh:=fun _ _=>rfl,bM:=fun d c h=>by simp [look] at h,eR:=fun d b h=>by simp [G0] at h,
           bS:=fun s c h=>by simp at h,dC:=fun s b h=>by simp [G0] at h,bT:=fun τ n h=>by simp at h,dD:=fun τ t h=>by simp [G0] at h,jo:=fun b c hb=>⟨rfl,hpin b c hb⟩ }
         have hC:=(oJ hI.mixed hI.D3 hI.yn ih h1 h2 hi (ef (ρ:=num ns) (G:=G0) hr) (by simpa using hN) hb).1
         refine hC.mono ?_
         rintro e w' ⟨v,G',rfl,eO,hi',hevo⟩
         refine ⟨v,G'.K,rfl,BV eO,hevo.K,fun b o u hb hk=>hevo.eS b o u hb rfl hk,hi'.known,⟨hevo.os,hevo.tape,hevo.output,hevo.size,fun b hb=>(hevo.cP b hb rfl).2⟩⟩
       · simp at h
     · simp only [run,h3] at h;cases h
     · simp only [run,h3,h4] at h
       exact h5 _ ih _ _ h
   · rcases hI.funcs f g hg with ⟨fn,A,af,h1,h2,h3⟩ | ⟨_,h3 | ⟨af,pf,h3,_,h4,_⟩⟩
     · simp only [run,h3,Option.ite_none_right_eq_some] at h
       obtain ⟨hN,h⟩:=h
       exact ⟨fun G w vs hi hr=>(oJ hI.mixed hI.D3 hI.yn ih h1 h2 hi hr hN h).1,pO h⟩
     · simp only [run,h3] at h;cases h
     · simp only [run,h3,Option.ite_none_right_eq_some] at h
       obtain ⟨_,h⟩:=h
       unfold bu at h
       rw [h4] at h
       simp [bX] at h
end
end Go.Ab
namespace Go.Ab
def IZ (fn:Func):Code:=match fn.body with | some c=>c | none=>.skip
end Go.Ab
namespace Go.Ab
open Go.ChangeShapes Go.WideShapes Go.ChangeAt Go.RowKit
def KW (w:World):aP:=fun b o=>w.cell? ⟨b,o,none⟩
theorem HY (w:World):Ix (KW w) w:=fun _ _ _ h=>h
def FQ (S:TypeId→PV→Prop):List Field→List PV→Prop
 | [],[]=>True
 | f::fs,p::ps=>S f.type p∧FQ S fs ps
 | _,_=>False
def lU (P:Program):Nat→TypeId→PV→Prop
 | 0,_,_=>False
 | n+1,t,p=>match P.underlying t with
   | some .bool=>∃b,p=.bool b
   | some (.int k)=>∃i,p=.int k i∧(Lit.int k i).wf=true
   | some .string=>∃s,p=.str s∧s.length≤maxLen
   | some (.slice e)=>∃els,p=.aF els∧els.length≤maxLen∧∀q∈els,lU P n e q
   | some (.struct fs)=>∃ps:List PV,p=.agg (ps.flatMap aH)∧FQ (lU P n) fs.toList ps
   | _=>False
def D4 (P:Program):Nat→List Field→Nat→Bool
 | o,[],total=>o == total
 | o,f::fs,total=>f.offset == o && D4 P (o+P.cellsOf f.type) fs total
def yE (P:Program) (T:List TypeId):Bool:=T.all fun t=>match P.underlying t with
 | some .bool | some (.int _) | some .string=>true
 | some (.slice e)=>T.contains e && decide (0<P.cellsOf e)
 | some (.struct fs)=>fs.toList.all (fun f=>T.contains f.type) && D4 P 0 fs.toList (P.cellsOf t)
 | _=>false
section
variable {H:Type} {enc:TypeId×Value→H} {P:Program} {w:World} {base:Nat} {sp:Nat→Bool} {held:Bool}
theorem uF {α β:Type} {f:α→Option β}:∀{l:List α} {r:List β},l.mapM f=some r→∀{i:Nat} {x:α},l[i]?=some x→∃y,r[i]?=some y∧f x=some y
 | [],_,_,i,x,hx=>by simp at hx
 | a::l,r,h,i,x,hx=>by
   simp only [List.mapM_cons,Option.bind_eq_bind,Option.bind_eq_some_iff,Option.pure_def,Option.some.injEq] at h
   obtain ⟨y,h1,ys,h2,rfl⟩:=h
   cases i with
   | zero=>simp at hx;subst hx;exact ⟨y,by simp,h1⟩
   | succ i=>simpa using uF h2 (i:=i) (by simpa using hx)
theorem uG {α β:Type} {f:α→Option β}:∀{l:List α} {r:List β},l.mapM f=some r→r.length=l.length
 | [],r,h=>by simp at h;subst h;rfl
 | a::l,r,h=>by
   simp only [List.mapM_cons,Option.bind_eq_bind,Option.bind_eq_some_iff,Option.pure_def,Option.some.injEq] at h
   obtain ⟨y,h1,ys,h2,rfl⟩:=h
   simp [uG h2]
theorem BW {a:Addr} {n:Nat} {cs:List Value} (hn:0<n) (h:w.cells? base a n=some cs):cs.length=n∧a.spot=none∧At (KW w) a.block a.off cs:=by
 unfold World.cells? at h
 split at h
 · have hl:cs.length=n:=by simpa using uG h
   have key:∀i,i<n→∃y,cs[i]?=some y∧w.cell? (a.add i)=some y:=by
     intro i hi
     exact uF h (i:=i) (x:=i) (by simp [hi])
   obtain ⟨y0,_,h0⟩:=key 0 hn
   have hspot:a.spot=none:=by
     cases hsp:a.spot with
     | none=>rfl
     | some s=>
       simp only [Addr.add,if_true,World.cell?] at h0
       split at h0
       · simp [hsp] at h0
       · cases h0
   refine ⟨hl,hspot,?_⟩
   intro j v hj
   have hjn:j<n:=by have:=(List.getElem?_eq_some_iff.1 hj).1;omega
   have e:a.add j=⟨a.block,a.off+j,none⟩:=by
     unfold Addr.add
     split
     · rename_i h0
       subst h0
       cases a
       simp_all
     · rfl
   obtain ⟨y,h1,h2⟩:=key j hjn
   rw [e] at h2
   rw [hj] at h1
   cases h1
   exact h2
 · cases h
theorem yF {K:aP} {S:PV→Prop} {b sz:Nat}:∀{n:Nat} {o:Nat},(∀i,i<n→∃vs q,vs.length=sz∧At K b (o+i*sz) vs∧S q∧R K true q vs)→∃els:List PV,els.length=n∧(∀q∈els,S q)∧Row K b o sz els
 | 0,o,_=>⟨[],rfl,by simp,by simp only [Row]⟩
 | n+1,o,h=>by
   obtain ⟨vs,q,h1,h2,h3,h4⟩:=h 0 (by omega)
   obtain ⟨els,e1,e2,e3⟩:=yF (K:=K) (S:=S) (b:=b) (sz:=sz) (n:=n) (o:=o+sz) fun i hi=>by
     obtain ⟨vs,q,h1,h2,h3,h4⟩:=h (i+1) (by omega)
     refine ⟨vs,q,h1,?_,h3,h4⟩
     rwa [show o+sz+i*sz=o+(i+1)*sz from by rw [Nat.add_mul];omega]
   refine ⟨q::els,by simp [e1],?_,?_⟩
   · intro x hx
     simp only [List.mem_cons] at hx
     rcases hx with rfl | hx
     · exact h3
     · exact e2 x hx
   · simp only [Row]
     exact ⟨⟨vs,h1,by simpa using h2,h4⟩,e3⟩
theorem qz {K:aP} {S:TypeId→PV→Prop} {cs:List Value}:∀{fs:List Field} {o total:Nat},D4 P o fs total=true→cs.length=total →
   (∀f∈fs,∃q,S f.type q∧R K true q ((cs.drop f.offset).take (P.cellsOf f.type)))→∃ps:List PV,FQ S fs ps∧cg K (ps.flatMap aH) (cs.drop o)
 | [],o,total,hl,hc,_=>⟨[],by simp [FQ],by
     simp [D4] at hl
     simp [cg];omega⟩
 | f::fs,o,total,hl,hc,h=>by
   simp only [D4,Bool.and_eq_true,beq_iff_eq] at hl
   obtain ⟨hf,hl⟩:=hl
   obtain ⟨q,h1,h2⟩:=h f (by simp)
   obtain ⟨ps,e1,e2⟩:=qz (K:=K) (S:=S) (cs:=cs) hl hc (fun f' hf'=>h f' (by simp [hf']))
   refine ⟨q::ps,⟨h1,e1⟩,?_⟩
   simp only [List.flatMap_cons]
   have:=(R.cells h2).append e2
   rw [hf] at this
   rwa [←List.drop_drop,List.take_append_drop] at this
theorem oL {T:List TypeId} (hT:yE P T=true):∀(n:Nat) (t:TypeId) (cs:List Value) (x:DataW H×List MemPlace),t∈T →
   DataW.trod enc P w base sp held n t cs=some x→∃p,lU P n t p∧R (KW w) true p cs
 | 0,t,cs,x,_,h=>by simp [DataW.trod] at h
 | n+1,t,cs,x,ht,h=>by
   have hp:=List.all_eq_true.1 hT t ht
   simp only [lU]
   split at hp
   · rename_i hu
     obtain ⟨b,rfl,_⟩:=DataW.trod_bool hu h
     exact ⟨.bool b,by exact ⟨b,rfl⟩,by simp [R]⟩
   · rename_i k hu
     obtain ⟨i,rfl,_,hw⟩:=DataW.trod_int hu h
     exact ⟨.int k i,by exact ⟨i,rfl,hw⟩,by simp [R]⟩
   · rename_i hu
     obtain ⟨s,rfl,_,hl⟩:=DataW.trod_string hu h
     exact ⟨.str s.data.toList,by exact ⟨_,rfl,by simpa using hl⟩,by simp [R]⟩
   · rename_i e hu
     simp only [Bool.and_eq_true,List.contains_iff_mem,decide_eq_true_eq] at hp
     rcases DataW.trod_slice hu h with ⟨rfl,_⟩ | ⟨a,len,cap,elems,rest,m,e0,rfl,_,_,hlen,hcap,hel,hget,_,_⟩
     · exact ⟨.aF [],by exact ⟨[],rfl,by simp,by simp⟩,by simp only [R];exact ⟨none,0,0,rfl,Nat.le_refl _,rfl,.inl trivial⟩⟩
     · have hm:m=n:=by omega
       subst hm
       by_cases h0:len=0
       · subst h0
         exact ⟨.aF [],by exact ⟨[],rfl,by simp,by simp⟩,by simp only [R];exact ⟨some a,0,cap,rfl,hlen,rfl,.inl trivial⟩⟩
       · have key:∀i,i<len→∃vs q,vs.length=P.cellsOf e∧(a.add (i*P.cellsOf e)).spot=none∧At (KW w) (a.add (i*P.cellsOf e)).block (a.add (i*P.cellsOf e)).off vs∧lU P m e q∧R (KW w) true q vs:=by
           intro i hi
           have hg:=hget i hi
           rw [List.getElem?_eq_getElem (by omega)] at hg
           simp only [Option.bind_eq_some_iff] at hg
           obtain ⟨vs,h1,h2⟩:=hg
           obtain ⟨c1,c2,c3⟩:=BW hp.2 h1
           obtain ⟨q,q1,q2⟩:=oL hT m e vs _ hp.1 h2
           exact ⟨vs,q,c1,c2,c3,q1,q2⟩
         have hspot:a.spot=none:=by
           obtain ⟨_,_,_,h2,_⟩:=key 0 (by omega)
           simpa [Addr.add] using h2
         obtain ⟨els,e1,e2,e3⟩:=yF (K:=KW w) (S:=lU P m e) (b:=a.block) (sz:=P.cellsOf e) (n:=len) (o:=a.off) fun i hi=>by
           obtain ⟨vs,q,c1,c2,c3,q1,q2⟩:=key i hi
           refine ⟨vs,q,c1,?_,q1,q2⟩
           have:(a.add (i*P.cellsOf e)).block=a.block∧(a.add (i*P.cellsOf e)).off=a.off+i*P.cellsOf e:=by
             unfold Addr.add
             split
             · rename_i h0;simp [h0]
             · exact ⟨rfl,rfl⟩
           rwa [this.1,this.2] at c3
         refine ⟨.aF els,by exact ⟨els,rfl,by omega,e2⟩,?_⟩
         simp only [R]
         refine ⟨some a,len,cap,rfl,hlen,e1,.inr ⟨a.block,a.off,P.cellsOf e,?_,e3⟩⟩
         cases a;simp_all
   · rename_i fs hu
     simp only [Bool.and_eq_true,List.all_eq_true,List.contains_iff_mem] at hp
     obtain ⟨xs,m,e0,_,hcs,hxs,hget⟩:=DataW.trod_struct hu h
     have hm:m=n:=by omega
     subst hm
     obtain ⟨ps,e1,e2⟩:=qz (K:=KW w) (S:=lU P m) (cs:=cs) hp.2 hcs fun f hf=>by
       obtain ⟨i,hi,JA⟩:=List.getElem_of_mem hf
       have hg:=hget i f (by rw [←Array.getElem?_toList];rw [List.getElem?_eq_getElem hi,JA])
       rw [List.getElem?_eq_getElem (by simp at hi;omega)] at hg
       exact oL hT m f.type _ _ (hp.1 f hf) hg
     refine ⟨.agg (ps.flatMap aH),by exact ⟨ps,rfl,e1⟩,?_⟩
     simp only [R]
     exact ⟨trivial,by simpa using e2⟩
   · cases hp
theorem FR {T:List TypeId} (hT:yE P T=true) {t:TypeId} {v:Value} {d:DataW H} {ps:List MemPlace} {r:Reach} {b0:Nat} (ht:t∈T) (hv:Value.okWide P w r b0 t v)
   (h:DataW.Trod enc P w base sp held t v d ps):∃n p,lU P n t p∧Rel (KW w) p v:=by
 obtain ⟨n,hn⟩:=h
 obtain ⟨p,h1,h2⟩:=oL hT n t _ _ ht hn
 refine ⟨n,p,h1,?_⟩
 have hp:=List.all_eq_true.1 hT t ht
 cases n with
 | zero=>simp [lU] at h1
 | succ n=>
   simp only [lU] at h1
   simp only [Value.okWide] at hv
   split at hp
   · rename_i hu
     rw [hu] at h1 hv
     obtain ⟨b,rfl⟩:=h1
     simp only [Cell.okWide,hu,Cell.ok] at hv
     cases v<;>simp_all [Value.cells,R,Rel]
   · rename_i k hu
     rw [hu] at h1 hv
     obtain ⟨b,rfl,_⟩:=h1
     simp only [Cell.okWide,hu,Cell.ok] at hv
     cases v<;>simp_all [Value.cells,R,Rel]
   · rename_i hu
     rw [hu] at h1 hv
     obtain ⟨b,rfl,_⟩:=h1
     simp only [Cell.okWide,hu,Cell.ok] at hv
     cases v<;>simp_all [Value.cells,R,Rel]
   · rename_i e hu
     rw [hu] at h1 hv
     obtain ⟨b,rfl,_⟩:=h1
     simp only [Cell.okWide,hu,Cell.ok] at hv
     cases v with
     | slice a l c=>
       simp only [R] at h2
       simp only [Rel,R]
       simpa [Value.cells] using h2
     | agg cs=>simp at hv
     | _=>simp_all [Value.cells,R]
   · rename_i fs hu
     rw [hu] at h1 hv
     obtain ⟨b,rfl,_⟩:=h1
     obtain ⟨cs,rfl,_⟩:=hv
     simp only [Value.cells,R] at h2
     exact ⟨cs.toList,by simp,h2.2⟩
   · cases hp
def BX (P:Program):List TypeId→List PV→Prop
 | [],[]=>True
 | t::ts,p::ps=>(∃n,lU P n t p)∧BX P ts ps
 | _,_=>False
theorem uH {T:List TypeId} (hT:yE P T=true) {r:Reach} {b0:Nat}:∀{ts:List TypeId} {vs:List Value} {ds:List (DataW H)} {ps:List MemPlace},(∀t∈ts,t∈T) →
   (∀(j:Nat) t v,ts[j]?=some t→vs[j]?=some v→Value.okWide P w r b0 t v)→DataW.TrodAll enc P w base sp held ts vs ds ps→∃cM,BX P ts cM∧iq (KW w) cM vs∧ds.length=ts.length
 | [],vs,ds,ps,_,_,h=>by
   obtain ⟨rfl,rfl,rfl⟩:=trodAll_nil h
   exact ⟨[],by simp [BX],by simp [iq],rfl⟩
 | t::ts,vs,ds,ps,hts,hv,h=>by
   obtain ⟨v,vs',d,ds',p,q,rfl,rfl,rfl,h1,h2⟩:=trodAll_cons h
   obtain ⟨n,pv,a1,a2⟩:=FR hT (hts t (by simp)) (hv 0 t v (by simp) (by simp)) h1
   obtain ⟨cM,b1,b2,b3⟩:=uH hT (fun t ht=>hts t (by simp [ht])) (fun j t v hj hj'=>hv (j+1) t v (by simpa using hj) (by simpa using hj')) h2
   exact ⟨pv::cM,⟨⟨n,a1⟩,b1⟩,⟨v,vs',rfl,a2,b2⟩,by simp [b3]⟩
theorem oM {W W':World} (hl:laidOutB P=true) (hb:Below W.heap.size W W'):∀{ts:List TypeId} {vs:List Value} {ds:List (DataW H)} {ps:List MemPlace},(∀t∈ts,P.readableRec t=true∧t<P.types.size) →
   DataW.TrodAll enc P W 0 (fun _=>true) true ts vs ds ps→(∀x∈ps,x.block<W.heap.size)→∀{sp:Nat→Bool},(∀x∈ps,sp x.block=true)→DataW.TrodAll enc P W' 0 sp true ts vs ds ps
 | [],vs,ds,ps,_,h,_,_,_=>by
   obtain ⟨rfl,rfl,rfl⟩:=trodAll_nil h
   exact trodAll_mk0
 | t::ts,vs,ds,ps,hts,h,hlt,sp,hs=>by
   obtain ⟨v,vs',d,ds',p,q,rfl,rfl,rfl,h1,h2⟩:=trodAll_cons h
   refine trodAll_cons_mk ?_ (oM hl hb (fun t ht=>hts t (by simp [ht])) h2 (fun x hx=>hlt x (by simp [hx])) (fun x hx=>hs x (by simp [hx])))
   exact WideElems.Trod_stays hl (hts t (by simp)).1 (hts t (by simp)).2 h1 (fun x hx=>hb.same (hlt x (by simp [hx]))) (fun x hx=>hs x (by simp [hx]))
end
theorem BY {H:Type} {enc:TypeId×Value→H} {P:Program} {f:Func} {s:ChangeSpec} {apart fresh handsOn again:Bool} {W W':World} {args:Array Value} {v:Value} {ds gs:List (DataW H)} {before:List MemPlace}
   (hW:DataW.Whole enc P f.params.toList s.vars apart W args.toList ds gs before)
   (eO:∀(b:Nat) (sp:Nat→Bool) (hd:Bool),DataW.TrodAll enc P W' b sp hd f.resultTypes.toList (v.resultList f.resultTypes.size) (s.fn H (ds++gs)).results [])
   (hargs:∀sp:Nat→Bool,(∀p∈before,sp p.block=true)→DataW.TrodAll enc P W' 0 sp true f.params.toList args.toList (s.fn H (ds++gs)).args before)
   (hvars:∀sp:Nat→Bool,DataW.TrodVars enc P W' sp s.vars (s.fn H (ds++gs)).vars []) (hB:Below W.heap.size W W')
   (hok:∀(j:Nat) (t:TypeId) (r:Value),f.resultTypes[j]?=some t→(v.resultList f.resultTypes.size)[j]?=some r→Value.okWide P W' .any 0 t r) :
   s.post enc P f apart fresh handsOn again W args v W':=by
 have hlt:∀p∈before,p.block<W.heap.size:=fun p hp=>by simpa using hW.lt p hp
 have hold:∀p∈before,(fun b=>decide (b<W.heap.size)) p.block=true:=fun p hp=>by simpa using hlt p hp
 refine ⟨ds,gs,before,[],before,[],hW,eO _ _ _,hargs _ hold,hvars _,World.keptBut_mono (fun p hp=>⟨hp,.inr (.inl hp)⟩) (hB.frame _),fun _=>⟨hok,_,_,([]++before)++[],⟨[]++before,[],trodAll_append (hargs _ (fun _ _=>rfl)) (eO _ _ _),hvars _,rfl,?_,?_⟩,?_⟩⟩
 · obtain ⟨_,_,_,_,_,hz,_⟩:=hW
   intro b off hp
   simp only [List.nil_append,List.append_nil] at hp
   rw [hB.frozen (hlt _ hp)]
   exact hz b off hp
 · obtain ⟨_,_,_,_,_,_,hn⟩:=hW
   intro ha
   simpa using hn ha
 · intro p hp _
   simpa using hp
theorem rQ {H:Type} {enc:TypeId×Value→H} {P:Program} {ns:Names} {AP:Nat→Option aw} (hI:Impl P ns AP) {f g:Nat} {fn:Func} {s:ChangeSpec} {T:List TypeId} {tb:TypeId}
   (hg:ns.of f=some g) (hvars:s.vars=[]) (eO:fn.resultTypes=#[tb]) (Ja:P.underlying tb=some .bool) (hl:laidOutB P=true)
   (hrd:∀t∈fn.params.toList,P.readableRec t=true∧t<P.types.size) (hT:yE P T=true) (hin:∀t∈fn.params.toList,t∈T)
   (hs:∀ds:List (DataW H),ds.length=fn.params.size→s.fn H ds={ results:=[.lit (.bool true)],args:=ds })
   (law:∀cM,BX P fn.params.toList cM→(aC AP).p g cM=some [.bool true])
   (W:World) (base:Nat) (args:Array Value) (ds gs:List (DataW H)) (before:List MemPlace)
   (hval:∀(j:Nat) t v,fn.params[j]?=some t→args[j]?=some v→Value.okWide P W .any base t v)
   (hW:DataW.Whole enc P fn.params.toList s.vars false W args.toList ds gs before)
   (hpin:HJ ns.jo W:=by intro _ _ h;exact Option.noConfusion (show (none:Option (Array Value))=some _ from h)) :
   Calls P f args W fun e W'=>∃v,e=.returned v∧s.post enc P fn false true false false W args v W':=by
 have hW':=hW
 obtain ⟨p,q,hA,hV,rfl,hfz,hnd⟩:=hW
 rw [hvars] at hV
 obtain ⟨rfl,rfl⟩:=trodVars_none hV
 simp only [List.append_nil] at hW'
 obtain ⟨cM,h1,h2,h3⟩:=uH (r:=.any) (b0:=base) hT hin (fun j t v hj hj'=>hval j t v (by simpa using hj) (by simpa using hj')) hA
 obtain ⟨n,hn⟩:=mZ (law cM h1)
 have hC:=(qy hI n n).p g f cM _ hg hn (KW W) W args.toList hpin (HY W) h2
 rw [Array.toArray_toList] at hC
 refine hC.mono ?_
 rintro e W' ⟨v,K',rfl,hr,_,_,_,hB⟩
 simp only [jA,Rel,R] at hr
 obtain rfl:v=.bool true:=by simpa using hr
 have hlt:∀x∈p,x.block<W.heap.size:=fun x hx=>by simpa using hW'.lt x hx
 have hspec:=hs ds (by simpa using h3)
 refine ⟨_,rfl,BY hW' (fun _ _ _=>?_) (fun sp hsp=>?_) (fun _=>?_) hB (ok_one eO rfl (okWide_bool_mk Ja _))⟩
 · simp only [List.append_nil]
   rw [hspec,eO]
   exact trodAll_cons_mk (p:=[]) (p':=[]) (shut_bool Ja _) trodAll_mk0
 · simp only [List.append_nil]
   rw [hspec]
   exact oM hl hB hrd hA hlt hsp
 · rw [hvars]
   simp only [List.append_nil]
   rw [hspec]
   rfl
end Go.Ab
