import Derived.Test.YtjegoeahhcieaaaGreatDoorAbB
import Derived.RangeFuncIn
import Derived.RangeFuncRecord
import Derived.RangeFuncSeq
import Derived.RangeFuncLeaves
import Derived.WalkKit
import Derived.ProofKit
import Derived.OpenShut
import Derived.Carry
import Derived.Lib.Join
import Derived.Lib.ItoaNum
import Derived.Lib.LaidTab
import Derived.Sort.Grow
import Derived.Deep.Draws
import Derived.Lib.Builder
import Derived.Lib.UnsafeStr
import Derived.Lib.AppendStr
/-
  Rules for running slim code by the simplifier: each is an equation on constructors.
  Ranges over a slice backward: the iterator's contract.
  slices.Clone: its argument appended to an empty slice.
  Code and functions: what the evaluator gives is what the model does.
  Functions: n levels of calls of the evaluator are what the model does.
  The pieces of a function's code by their places: for functions that are known by their code's shape.
  From the rows' readings to pure data, and from what the evaluator gives to a law's contract.
  The evaluator for the kernel: what an operation lays is brought to its last form at once. It answers as the evaluator does.
  Functions of Go's library that the kit knows: strings.Join, and strconv.Itoa of small numbers.
  The table that strconv reads, as the rows list it.
  A program's text written through a strings.Builder: what the declarations' and the bindings' texts are, one after another.
-/
set_option linter.unusedVariables false
set_option linter.unusedSimpArgs false
set_option linter.unnecessarySimpa false
set_option maxRecDepth 100000
set_option maxHeartbeats 8000000
namespace Go.Ab.Ev
section
variable {AP:Nat→Option aC} {O:eH}
noncomputable def branch(AP:Nat→Option aC)(o:Option AV)(a b:ae)(st:St):Option (aU×St):=
 match o with
 |some (.pv (.bool t))=>if t=true then cl AP a st else cl AP b st
 |_=>none
theorem G_{c:eG}{a b:ae}{st:St}:cl AP (.cond c a b) st=branch AP (gX st.env c) a b st:=by
 unfold branch;split
 ·rename_i t h;rw[Of h]
 ·rename_i h;unfold cl;refine o9 fun k=>?_;simp only[cP]
theorem z9{t:Bool}{a b:ae}{st:St}:branch AP (some (.pv (.bool t))) a b st=if t=true then cl AP a st else cl AP b st:=rfl
def tj(live:List Nat):Option St→Option (aU×St)
 |some st=>some (.normal,restrict live st)
 |none=>none
theorem Ha{ops:List dN}{live:List Nat}{st:St}:cl AP (.oG ops live) st=tj live (bt (aF AP) ops st):=by
 rw[R5];cases bt (aF AP) ops st<;>rfl
theorem z_{live:List Nat}{st:St}:tj live (some st)=some (.normal,restrict live st):=rfl
theorem Cy{live:List Nat}{c:Prop}[Decidable c]{x y:Option St}:tj live (if c then x else y)=if c then tj live x else tj live y:=by split<;>rfl
theorem xH{f:St→Option (aU×St)}{st:St}:after f (some (.normal,st))=f st:=rfl
theorem Hb{f:St→Option (aU×St)}{st:St}:after f (some (.ret,st))=some (.ret,st):=rfl
theorem Cz{f:St→Option (aU×St)}{st:St}{id:Nat}:after f (some (.exit id,st))=some (.exit id,st):=rfl
theorem Hc{f:St→Option (aU×St)}{c:Prop}[Decidable c]{x y:Option (aU×St)}:after f (if c then x else y)=if c then after f x else after f y:=by split<;>rfl
theorem xI{id:Nat}{st:St}:leave id (some (.normal,st))=some (.normal,st):=rfl
theorem He{id:Nat}{st:St}:leave id (some (.ret,st))=some (.ret,st):=rfl
theorem CA{id id':Nat}{st:St}:leave id (some (.exit id',st))=if id'=id then some (.normal,st) else some (.exit id',st):=rfl
theorem Hf{id:Nat}{c:Prop}[Decidable c]{x y:Option (aU×St)}:leave id (if c then x else y)=if c then leave id x else leave id y:=by split<;>rfl
def nd(O:eH)(l:List dN):Option St→Option St
 |some st=>bt O l st
 |none=>none
theorem Hg{st:St}:bt O [] st=some st:=rfl
theorem lB{o:dN}{l:List dN}{st:St}:bt O (o::l) st=nd O l (dV O o st):=by
 simp only[bt];cases dV O o st<;>rfl
theorem CB{d:Option Nat}{args:List eG}{op:AK}{l:List dN}{st:St}:bt O (⟨d,none,args,op⟩::l) st=nd O l (dV O ⟨d,none,args,op⟩ st):=lB
theorem xJ{l:List dN}{st:St}:nd O l (some st)=bt O l st:=rfl
theorem Aa{l:List dN}{c:Prop}[Decidable c]{x y:Option St}:nd O l (if c then x else y)=if c then nd O l x else nd O l y:=by split<;>rfl
def tq(d k:Option Nat)(env:List (Nat×AV))(mem:List (Nat×List AV)):Option Out→Option St
 |some out=>some { env:=fG env d out.val,mem:=ez mem k out.cells,sh:=out.sh,aa:=out.aa }
 |none=>none
def Ky(O:eH)(op:AK)(vals:Option (List AV))(cells:Option (List AV))(sh:Sh)(aa:aG):Option Out:=
 match vals with
 |some vals=>exec O op vals cells sh aa
 |none=>none
theorem CC{d:Option Nat}{args:List eG}{op:AK}{env:List (Nat×AV)}{mem:List (Nat×List AV)}{sh:Sh}{aa:aG} :
   dV O ⟨d,none,args,op⟩ ⟨env,mem,sh,aa⟩=tq d op.key env mem (Ky O op (d3 env args) (op.key.bind (look mem)) sh aa):=by
 simp only[dV,fh];cases d3 env args with
 |none=>rfl
 |some vals=>
   dsimp only[Ky];cases exec O op vals (op.key.bind (look mem)) sh aa<;>rfl
def tt(t:Nat)(b:Bool)(o:dN):dN:=
 match o.guard with
 |some (t',b')=>if t'=t then (if b'=b then { o with guard:=none } else ⟨o.dst,none,[.c .un],.v .mv⟩) else o
 |none=>o
def Hh(t:Nat):List dN→Bool
 |[]=>true
 |o::l=>(o.dst != some t) && Hh t l
theorem nf{α:Type}{t t':Nat}{v:α}:∀{l:List (Nat×α)},look (di l t v) t'=if t'=t then some v else look l t'
 |[]=>by
   simp only[di,look];by_cases h:t'=t
   ·subst h;simp
   ·rw[if_neg (fun e=>h e.symm),if_neg h]
 |(k,u)::r=>by
   simp only[di];by_cases hk:k=t
   · subst hk;simp only[if_true,look];by_cases h:t'=k
     ·subst h;simp
     ·rw[if_neg (fun e=>h e.symm),if_neg h,if_neg (fun e=>h e.symm)]
   · rw[if_neg hk];simp only[look,nf (l:=r)];by_cases h:k=t'
     ·subst h;simp[hk]
     ·rw[if_neg h,if_neg h]
theorem pW{α:Type}{t:Nat}{v:α}:∀{l:List (Nat×α)},look l t=some v→di l t v=l
 |[],h=>by simp[look]at h
 |(k,u)::r,h=>by
   simp only[look]at h;simp only[di];split at h
   ·rename_i e;cases h;rw[if_pos e]
   ·rename_i e;rw[if_neg e,pW h]
theorem Hk{o:dN}{st st':St}{t:Nat}{v:AV}(hd:(o.dst != some t)=true)(h:look st.env t=some v)(e:dV O o st=some st'):look st'.env t=some v:=by
 have key:∀x,look (fG st.env o.dst x) t=some v:=by
   intro x;cases hdd:o.dst with
   |none=>exact h
   |some d=>
     rw[hdd]at hd;simp only[fG,nf];rw[if_neg (by intro e;subst e;simp at hd)];exact h
 simp only[dV]at e;split at e
 ·cases e
 ·cases e;exact key _
 · split at e
   ·cases e
   · split at e
     ·cases e
     ·cases e;exact key _
theorem Hl{o:dN}{st:St}{t:Nat}{b:Bool}(h:look st.env t=some (.pv (.bool b))):dV O o st=dV O (tt t b o) st:=by
 obtain⟨d,g,args,op⟩:=o;cases g with
 |none=>rfl
 |some p=>
   obtain⟨t',b'⟩:=p;simp only[tt];by_cases ht:t'=t
   · subst ht;rw[if_pos rfl];by_cases hb:b'=b
     ·subst hb;rw[if_pos rfl];simp only[dV,fh,h,beq_self_eq_true]
     · rw[if_neg hb];have hb':(b == b')=false:=by simpa using fun e=>hb e.symm
       simp only[dV,fh,h,hb'];obtain⟨env,mem,sh,aa⟩:=st;rfl
   ·rw[if_neg ht]
theorem oh{t:Nat}{b:Bool}:∀{l:List dN} {st:St},Hh t l=true→look st.env t=some (.pv (.bool b))→bt O l st=bt O (l.map (tt t b)) st
 |[],_,_,_=>rfl
 |o::l,st,hn,h=>by
   simp only[Hh,Bool.and_eq_true]at hn;rw[List.map_cons,lB,lB,←Hl h];cases e:dV O o st with
   |none=>rfl
   |some st'=>exact oh hn.2 (Hk hn.1 h e)
theorem Ac{d:Option Nat}{t:Nat}{b:Bool}{args:List eG}{op:AK}{l:List dN}{env:List (Nat×AV)}{mem:List (Nat×List AV)}{sh:Sh}{aa:aG}{c:Bool}(h:look env t=some (.pv (.bool c)))(hn:Hh t (⟨d,some (t,b),args,op⟩::l)=true) :
   bt O (⟨d,some (t,b),args,op⟩::l) ⟨env,mem,sh,aa⟩ =
     if c=true then bt O ((⟨d,some (t,b),args,op⟩::l).map (tt t true)) ⟨di env t (.pv (.bool true)),mem,sh,aa⟩
     else bt O ((⟨d,some (t,b),args,op⟩::l).map (tt t false)) ⟨di env t (.pv (.bool false)),mem,sh,aa⟩:=by
 cases c with
 |true=>rw[if_pos rfl,pW h];exact oh hn h
 |false=>rw[if_neg (by simp),pW h];exact oh hn h
theorem xL{d:Option Nat}{t:Nat}{b:Bool}{args:List eG}{op:AK}{l:List dN}{env:List (Nat×AV)}{mem:List (Nat×List AV)}{sh:Sh}{aa:aG}(h:look env t=some .un) :
   bt O (⟨d,some (t,b),args,op⟩::l) ⟨env,mem,sh,aa⟩=bt O l ⟨fG env d .un,mem,sh,aa⟩:=by
 rw[lB];simp only[dV,fh,h];rfl
noncomputable def gd(O:eH)(t:Nat)(ops:List dN)(d:Option Nat)(l:List dN)(env:List (Nat×AV))(mem:List (Nat×List AV))(sh:Sh)(aa:aG):Option AV→Option St
 |some (.pv (.bool c))=>if Hh t ops=true then (if c=true then bt O (ops.map (tt t true)) ⟨di env t (.pv (.bool true)),mem,sh,aa⟩
     else bt O (ops.map (tt t false)) ⟨di env t (.pv (.bool false)),mem,sh,aa⟩) else bt O ops ⟨env,mem,sh,aa⟩
 |some .un=>bt O l ⟨fG env d .un,mem,sh,aa⟩
 |_=>bt O ops ⟨env,mem,sh,aa⟩
theorem Kz{d:Option Nat}{t:Nat}{b:Bool}{args:List eG}{op:AK}{l:List dN}{env:List (Nat×AV)}{mem:List (Nat×List AV)}{sh:Sh}{aa:aG} :
   bt O (⟨d,some (t,b),args,op⟩::l) ⟨env,mem,sh,aa⟩=gd O t (⟨d,some (t,b),args,op⟩::l) d l env mem sh aa (look env t):=by
 unfold gd;split
 · rename_i c h;split
   ·rename_i hn;exact Ac h hn
   ·rfl
 ·rename_i h;exact xL h
 ·rfl
theorem Oh{t:Nat}{ops:List dN}{d:Option Nat}{l:List dN}{env:List (Nat×AV)}{mem:List (Nat×List AV)}{sh:Sh}{aa:aG}{c:Bool}:gd O t ops d l env mem sh aa (some (.pv (.bool c))) =
   if Hh t ops=true then (if c=true then bt O (ops.map (tt t true)) ⟨di env t (.pv (.bool true)),mem,sh,aa⟩
     else bt O (ops.map (tt t false)) ⟨di env t (.pv (.bool false)),mem,sh,aa⟩) else bt O ops ⟨env,mem,sh,aa⟩:=rfl
theorem T9{t:Nat}{ops:List dN}{d:Option Nat}{l:List dN}{env:List (Nat×AV)}{mem:List (Nat×List AV)}{sh:Sh}{aa:aG}:gd O t ops d l env mem sh aa (some .un)=bt O l ⟨fG env d .un,mem,sh,aa⟩:=rfl
theorem Oi{t:Nat}:Hh t []=true:=rfl
theorem KA{t d:Nat}{g:Option (Nat×Bool)}{args:List eG}{op:AK}{l:List dN}:Hh t (⟨some d,g,args,op⟩::l)=(!(decide (d=t)) && Hh t l):=by
 simp only[Hh];congr 1
theorem KB{t:Nat}{g:Option (Nat×Bool)}{args:List eG}{op:AK}{l:List dN}:Hh t (⟨none,g,args,op⟩::l)=Hh t l:=by
 simp[Hh]
theorem Hm{t:Nat}{b:Bool}{d:Option Nat}{args:List eG}{op:AK}:tt t b ⟨d,none,args,op⟩=⟨d,none,args,op⟩:=rfl
theorem Hn{t t':Nat}{b b':Bool}{d:Option Nat}{args:List eG}{op:AK}:tt t b ⟨d,some (t',b'),args,op⟩=if t'=t then (if b'=b then ⟨d,none,args,op⟩ else ⟨d,none,[.c .un],.v .mv⟩) else ⟨d,some (t',b'),args,op⟩:=rfl
theorem Ad{d k:Option Nat}{env:List (Nat×AV)}{mem:List (Nat×List AV)}{v:AV}{cs:Option (List AV)}{sh:Sh}{aa:aG} :
   tq d k env mem (some ⟨v,cs,sh,aa⟩)=some ⟨fG env d v,ez mem k cs,sh,aa⟩:=rfl
theorem CD{d k:Option Nat}{env:List (Nat×AV)}{mem:List (Nat×List AV)}{c:Prop}[Decidable c]{x y:Option Out}:tq d k env mem (if c then x else y)=if c then tq d k env mem x else tq d k env mem y:=by split<;>rfl
theorem CE{op:AK}{vals:List AV}{cells:Option (List AV)}{sh:Sh}{aa:aG}:Ky O op (some vals) cells sh aa=exec O op vals cells sh aa:=rfl
def KD(sh:Sh)(aa:aG):Option AV→Option Out
 |some x=>some ⟨x,none,sh,aa⟩
 |none=>none
theorem Hp{sh:Sh}{aa:aG}{x:AV}:KD sh aa (some x)=some ⟨x,none,sh,aa⟩:=rfl
variable {vals:List AV} {cells:Option (List AV)} {sh:Sh} {aa:aG}
theorem R7{o:N2}:exec O (.v o) vals cells sh aa=KD sh aa (bA o vals):=by
 show (bA o vals).map _=_;cases bA o vals<;>rfl
theorem h_{key off sz d o:Nat}{ag:Bool}{cs:List AV}:exec O (.cd key off sz ag) [.au d o] (some cs) sh aa=if d=key∧o=off then KD sh aa (bO ag sz cs off) else none:=by
 show (if d=key∧o=off then (bO ag sz cs off).map _ else none)=_;cases bO ag sz cs off<;>rfl
theorem iy{key off sz d o:Nat}{v:AV}{cs:List AV}:exec O (.bI key off sz) [.au d o,v] (some cs) sh aa =
   if d=key∧o=off∧(aX v).length=sz∧(aX v).all a0=true then if off+sz≤cs.length then some ⟨.un,some (aR cs off (aX v)),sh,aa⟩ else none else none:=rfl
theorem jr{key:Nat}{zero:List PV}:exec O (.alloc key zero) [] none sh aa=some ⟨.au key 0,some (zero.map bA.zeroCell),sh,aa⟩:=rfl
theorem mu{key sz:Nat}{v:AV}:exec O (.box key sz) [v] none sh aa=if (aX v).length=sz∧(aX v).all a0=true then some ⟨.au key 0,some (aX v),sh,aa⟩ else none:=rfl
theorem Ae{sz:Nat}{ag:Bool}{cs:List PV}:exec O (.eK sz ag) [.dM cs] cells sh aa=KD sh aa (cJ ag sz cs):=by
 show (cJ ag sz cs).map _=_;cases cJ ag sz cs<;>rfl
def tu(ag:Bool)(sz off:Nat):Option (Option (List AV))→Option AV
 |some (some cs)=>if bY cs=true then none else bO ag sz cs off
 |_=>none
theorem qL{ag:Bool}{sz off:Nat}{cs:List AV}:tu ag sz off (some (some cs))=if bY cs=true then none else bO ag sz cs off:=rfl
theorem Af{sz b off:Nat}{ag:Bool}:exec O (.eK sz ag) [.aM b off] cells sh aa=KD sh aa (tu ag sz off sh[b]?):=by
 show (match sh[b]? with|some (some cs)=>if bY cs=true then none else (bO ag sz cs off).map _|_=>none)=_;split
 · rename_i cs h;rw[h,qL];split
   ·rfl
   ·cases bO ag sz cs off<;>rfl
 · rename_i h;unfold tu;split
   ·rename_i cs e;exact absurd e (h cs)
   ·rfl
def pa(b off sz:Nat)(vs:List AV)(sh:Sh)(aa:aG):Option (Option (List AV))→Option Out
 |some (some cs)=>if bY cs=false∧vs.length=sz∧off+sz≤cs.length∧vs.all cI=true∧vs.all (aI (b+1))=true then some ⟨.un,none,sh.set b (some (aR cs off vs)),aa⟩ else none
 |_=>none
theorem lC{b off sz:Nat}{vs cs:List AV}:pa b off sz vs sh aa (some (some cs))=if bY cs=false∧vs.length=sz∧off+sz≤cs.length∧vs.all cI=true∧vs.all (aI (b+1))=true then some ⟨.un,none,sh.set b (some (aR cs off vs)),aa⟩ else none:=rfl
theorem iz{sz b off:Nat}{v:AV}:exec O (.eR sz) [.aM b off,v] cells sh aa=pa b off sz (cE v) sh aa sh[b]?:=by
 show (match sh[b]? with|some (some cs)=>_|_=>none)=_;split
 ·rename_i cs h;rw[h,lC]
 · rename_i h;unfold pa;split
   ·rename_i cs e;exact absurd e (h cs)
   ·rfl
theorem jU{sz b off:Nat}{v:AV}:exec O (.kX sz) [.aM b off,v] cells sh aa=pa b off sz (aX v) sh aa sh[b]?:=by
 show (match sh[b]? with|some (some cs)=>_|_=>none)=_;split
 ·rename_i cs h;rw[h,lC]
 · rename_i h;unfold pa;split
   ·rename_i cs e;exact absurd e (h cs)
   ·rfl
theorem m5{sz:Nat}{v:AV}:exec O (.re sz) [v] cells sh aa=if (cE v).length=sz∧(cE v).all cI=true∧(cE v).all (aI sh.length)=true then some ⟨.aM sh.length 0,none,sh++[some (cE v)],aa⟩ else none:=rfl
theorem m6{sz:Nat}{v:AV}:exec O (.su sz) [v] cells sh aa=if (aX v).length=sz∧(aX v).all cI=true∧(aX v).all (aI sh.length)=true then some ⟨.aM sh.length 0,none,sh++[some (aX v)],aa⟩ else none:=rfl
theorem jV{zero:List PV}:exec O (.iH zero) [] cells sh aa=some ⟨.aM sh.length 0,none,sh++[some (zero.map bA.zeroCell)],aa⟩:=rfl
theorem lg{sz bytes:Nat}{ag:Bool}{zero:List PV}{k k':IntKind}{n n':Int}:exec O (.jb sz bytes ag zero) [.pv (.int k n),.pv (.int k' n')] cells sh aa =
   if n=n'∧0≤n∧n≤9223372036854775807∧n*bytes≤140737488355328∧zero.length=sz then some ⟨.aT sh.length sz n.toNat ag,none,sh++[some ((List.replicate n.toNat (zero.map .pv)).flatten)],aa⟩ else none:=rfl
theorem js{key sz bytes:Nat}{zero:List PV}{k k':IntKind}{n n':Int}:exec O (.iq key sz bytes zero) [.pv (.int k n),.pv (.int k' n')] none sh aa =
   if n=n'∧0≤n∧n≤9223372036854775807∧n*bytes≤140737488355328∧zero.length=sz then some ⟨.jJ key n.toNat,some ((List.replicate n.toNat (zero.map .pv)).flatten),sh,aa⟩ else none:=rfl
theorem KE{s:Nat}:(AK.su s).key=none:=rfl
theorem Hq{d s b:Nat}{z:List PV}:AK.key (.iq d s b z)=some d:=rfl
theorem CF{live:List Nat}{d n:Nat}:dW live (.jJ d n)=live.contains d:=rfl
def R8(d sz:Nat)(ag:Bool)(st:St):Option (List AV)→St
 |some cells=>if cells.all cI=true∧cells.all (aI (st.sh.length+1))=true then
     { st with env:=rp d st.sh.length sz cells.length ag st.env (st.env.map (·.1)),mem:=rq d st.mem,sh:=st.sh++[some cells] } else st
 |none=>st
theorem Oj{d sz:Nat}{ag:Bool}{st:St}:GA d sz ag st=R8 d sz ag st (look st.mem d):=by
 unfold GA R8;split<;>rename_i h<;>rw[h]
theorem Hr{d sz:Nat}{ag:Bool}{env:List (Nat×AV)}{mem:List (Nat×List AV)}{cells:List AV}:R8 d sz ag ⟨env,mem,sh,aa⟩ (some cells) =
   if cells.all cI=true∧cells.all (aI (sh.length+1))=true then ⟨rp d sh.length sz cells.length ag env (env.map (·.1)),rq d mem,sh++[some cells],aa⟩ else ⟨env,mem,sh,aa⟩:=rfl
theorem KF{st:St}:w6 [] st=st:=rfl
theorem Hs{d sz:Nat}{ag:Bool}{r:List (Nat×Nat×Bool)}{st:St}:w6 ((d,sz,ag)::r) st=w6 r (GA d sz ag st):=rfl
theorem KH{d s sz n:Nat}{ag:Bool}{env:List (Nat×AV)}:rp d s sz n ag env []=[]:=rfl
def T_(t:Nat)(r:List (Nat×AV)):Option AV→List (Nat×AV)
 |some v=>(t,v)::r
 |none=>r
theorem Ht{t:Nat}{r:List (Nat×AV)}{v:AV}:T_ t r (some v)=(t,v)::r:=rfl
theorem Hu{d s sz n t:Nat}{ag:Bool}{env:List (Nat×AV)}{r:List Nat}:rp d s sz n ag env (t::r)=T_ t (rp d s sz n ag env r) ((look env t).bind (y3 d s sz n ag)):=by
 simp only[rp];split<;>rename_i h<;>rw[h]<;>rfl
theorem Hv{d s sz n d' o:Nat}{ag:Bool}:y3 d s sz n ag (.au d' o)=some (if d'=d then .aM s o else .au d' o):=rfl
theorem Hw{d s sz n d' m:Nat}{ag:Bool}:y3 d s sz n ag (.jJ d' m)=if d'=d then (if m*sz≤n then some (.aT s sz m ag) else none) else some (.jJ d' m):=rfl
theorem Ol{d s sz n:Nat}{ag:Bool}{p:PV}:y3 d s sz n ag (.pv p)=some (.pv p):=rfl
theorem Hx{d s sz n b z m:Nat}{ag g:Bool}:y3 d s sz n ag (.aT b z m g)=some (.aT b z m g):=rfl
theorem KI{α:Type}{d:Nat}:rq d ([]:List (Nat×α))=[]:=rfl
theorem Hy{α:Type}{d k:Nat}{v:α}{r:List (Nat×α)}:rq d ((k,v)::r)=if k=d then rq d r else (k,v)::rq d r:=rfl
theorem CG{env:List (Nat×AV)}:fH env []=true:=rfl
theorem Ag{env:List (Nat×AV)}{a b:Nat}{r:List (Nat×Nat)}:fH env ((a,b)::r)=(apart (look env a) (look env b) && fH env r):=rfl
theorem KJ{b o b' o':Nat}:apart (some (.aM b o)) (some (.aM b' o'))=(b != b'):=rfl
def Ua(ts:List Nat)(st:St):Option AV→St
 |some (.aT b _ _ _)=>match st.sh[b]? with
   |some (some cells)=>if bY cells=false then { st with env:=nH b st.sh.length ts st.env,sh:=st.sh.set b none++[some cells] } else st
   |_=>st
 |_=>st
theorem Hz{t:Nat}{r:List Nat}{st:St}:GB (t::r) st=Ua (t::r) st (look st.env t):=rfl
def Ub(ts:List Nat)(b:Nat)(st:St):Option (Option (List AV))→St
 |some (some cells)=>if bY cells=false then { st with env:=nH b st.sh.length ts st.env,sh:=st.sh.set b none++[some cells] } else st
 |_=>st
theorem HA{ts:List Nat}{st:St}{b z n:Nat}{ag:Bool}:Ua ts st (some (.aT b z n ag))=Ub ts b st st.sh[b]?:=rfl
theorem HB{ts:List Nat}{b:Nat}{env:List (Nat×AV)}{mem:List (Nat×List AV)}{cells:List AV}:Ub ts b ⟨env,mem,sh,aa⟩ (some (some cells)) =
   if bY cells=false then ⟨nH b sh.length ts env,mem,sh.set b none++[some cells],aa⟩ else ⟨env,mem,sh,aa⟩:=rfl
theorem KK{b b':Nat}{env:List (Nat×AV)}:nH b b' [] env=env:=rfl
def Uc(b b' t:Nat)(r:List Nat)(env:List (Nat×AV)):Option AV→List (Nat×AV)
 |some (.aT s z n ag)=>if s=b then nH b b' r (di env t (.aT b' z n ag)) else nH b b' r env
 |_=>nH b b' r env
theorem HC{b b' t:Nat}{r:List Nat}{env:List (Nat×AV)}:nH b b' (t::r) env=Uc b b' t r env (look env t):=rfl
theorem HD{b b' t s z n:Nat}{ag:Bool}{r:List Nat}{env:List (Nat×AV)}:Uc b b' t r env (some (.aT s z n ag))=if s=b then nH b b' r (di env t (.aT b' z n ag)) else nH b b' r env:=rfl
theorem KL{st:St}:jK [] st=st:=rfl
def Wm(r:List Nat)(st:St):Option AV→St
 |some (.aT b _ _ _)=>match st.sh[b]? with
   |some (some cells)=>if bY cells=false∧(ei (.agg cells)).contains b=false then
       match dF st.sh cells with
       |some ps=>jK r { st with sh:=(c_ st.sh [.agg cells]).set b (some (ps.map .pv)) }
       |none=>jK r st
     else jK r st
   |_=>jK r st
 |_=>jK r st
theorem HE{t:Nat}{r:List Nat}{st:St}:jK (t::r) st=Wm r st (look st.env t):=rfl
def R9(r:List Nat)(b:Nat)(cells:List AV)(st:St):Option (List PV)→St
 |some ps=>jK r { st with sh:=(c_ st.sh [.agg cells]).set b (some (ps.map .pv)) }
 |none=>jK r st
def Wn(r:List Nat)(b:Nat)(st:St):Option (Option (List AV))→St
 |some (some cells)=>if bY cells=false∧(ei (.agg cells)).contains b=false then R9 r b cells st (dF st.sh cells) else jK r st
 |_=>jK r st
theorem HF{r:List Nat}{b:Nat}{st:St}{cells:List AV}:Wn r b st (some (some cells))=if bY cells=false∧(ei (.agg cells)).contains b=false then R9 r b cells st (dF st.sh cells) else jK r st:=rfl
theorem HG{r:List Nat}{b:Nat}{cells:List AV}{ps:List PV}{env:List (Nat×AV)}{mem:List (Nat×List AV)}:R9 r b cells ⟨env,mem,sh,aa⟩ (some ps)=jK r ⟨env,mem,(c_ sh [.agg cells]).set b (some (ps.map .pv)),aa⟩:=rfl
def Ud(aa:aG):Option (AV×Sh×aG)→Option Out
 |some (v,sh',ts)=>some ⟨v,none,sh',ts⟩
 |none=>none
theorem HH{v:AV}{sh':Sh}{ts:aG}:Ud aa (some (v,sh',ts))=some ⟨v,none,sh',ts⟩:=rfl
theorem Ah{sz bytes:Nat}{ag:Bool}{x:AV}:exec O (.jc sz bytes ag) [x] cells sh aa=Ud aa (fF (some ag) sz bytes x sh aa):=by
 show ((fF (some ag) sz bytes x sh aa).map _)=_;cases fF (some ag) sz bytes x sh aa<;>rfl
def xM(ag:Bool)(sz bytes:Nat)(sh:Sh)(aa:aG):Option (List PV)→Option (AV×Sh×aG)
 |some xs=>if a_ sz xs=true then (if xs.isEmpty=true then some (.cY [],sh,aa) else if xs.length*bytes≤140737488355328 then some (.aT sh.length sz xs.length ag,sh++[some ((xs.flatMap aZ).map .pv)],aa) else none) else none
 |none=>none
theorem HI{ag:Bool}{sz bytes:Nat}{x:AV}:fF (some ag) sz bytes x sh aa=xM ag sz bytes sh aa (cf x):=by
 cases h:cf x with
 |none=>simp[fF,xM,h]
 |some xs=>
   simp only[fF,xM,h];split
   · unfold rm;split
     ·rfl
     ·split<;>rfl
   ·rfl
theorem Ai{ag:Bool}{sz bytes:Nat}{xs:List PV}:xM ag sz bytes sh aa (some xs) =
   if a_ sz xs=true then (if xs.isEmpty=true then some (.cY [],sh,aa) else if xs.length*bytes≤140737488355328 then some (.aT sh.length sz xs.length ag,sh++[some ((xs.flatMap aZ).map .pv)],aa) else none) else none:=rfl
theorem CH{sz bytes:Nat}{ag:Bool}:(AK.jc sz bytes ag).key=none:=rfl
theorem Om{p:PV}{r:List AV}:bY (.pv p::r)=false:=rfl
theorem KM{l:List PV}{τ:Nat}{r:List AV}:bY (.own l τ::r)=false:=rfl
theorem HJ{b z n:Nat}{ag:Bool}{r:List AV}:bY (.aT b z n ag::r)=false:=rfl
theorem lh:exec O .oH [] cells sh aa=some ⟨.fR sh.length,none,sh++[some [.dB []]],aa⟩:=rfl
def R_(ok:Bool)(z:PV)(sh:Sh)(aa:aG):Option (Option PV)→Option Out
 |some r=>some ⟨iR ok z r,none,sh,aa⟩
 |none=>none
theorem HK{ok:Bool}{z:PV}{r:Option PV}:R_ ok z sh aa (some r)=some ⟨iR ok z r,none,sh,aa⟩:=rfl
theorem xN{z:PV}{r:Option PV}:iR true z r=.pJ [.pv (r.getD z),.pv (.bool r.isSome)]:=rfl
theorem vd{z:PV}{r:Option PV}:iR false z r=.pv (r.getD z):=rfl
def KN(c:CK)(ok:Bool)(z k:PV)(sh:Sh)(aa:aG):Option (Option (List AV))→Option Out
 |some (some [.dB kvs])=>R_ ok z sh aa (ki c kvs k)
 |_=>none
theorem tv{c:CK}{ok:Bool}{z k:PV}{kvs:List (PV×PV)}:KN c ok z k sh aa (some (some [.dB kvs]))=R_ ok z sh aa (ki c kvs k):=rfl
theorem jt{c:CK}{ok:Bool}{z k:PV}{s:Nat}:exec O (.kz c ok z) [.fR s,.pv k] cells sh aa=KN c ok z k sh aa sh[s]?:=by
 show (match sh[s]? with|some (some [.dB kvs])=>(ki c kvs k).map _|_=>none)=_;split
 ·rename_i kvs h;rw[h,tv];cases ki c kvs k<;>rfl
 · rename_i h;unfold KN;split
   ·rename_i kvs e;exact absurd e (h kvs)
   ·rfl
def Sa(s:Nat)(sh:Sh)(aa:aG):Option (List (PV×PV))→Option Out
 |some kvs=>some ⟨.un,none,sh.set s (some [.dB kvs]),aa⟩
 |none=>none
theorem HL{s:Nat}{kvs:List (PV×PV)}:Sa s sh aa (some kvs)=some ⟨.un,none,sh.set s (some [.dB kvs]),aa⟩:=rfl
def Sb(c:CK)(s:Nat)(k:PV)(sh:Sh)(aa:aG):Option (Option (List AV))→Option PV→Option Out
 |some (some [.dB kvs]),some p=>Sa s sh aa (mf c kvs k p)
 |_,_=>none
theorem v5{c:CK}{s:Nat}{k p:PV}{kvs:List (PV×PV)}:Sb c s k sh aa (some (some [.dB kvs])) (some p)=Sa s sh aa (mf c kvs k p):=rfl
theorem m7{c:CK}{k:PV}{s:Nat}{v:AV}:exec O (.sv c) [.fR s,.pv k,v] cells sh aa=Sb c s k sh aa sh[s]? (bR [] v):=by
 show (match sh[s]?,bR [] v with|some (some [.dB kvs]),some p=>(mf c kvs k p).map _|_,_=>none)=_;split
 ·rename_i kvs p h1 h2;rw[h1,h2,v5];cases mf c kvs k p<;>rfl
 · rename_i h;unfold Sb;split
   ·rename_i kvs p e1 e2;exact absurd e2 (h kvs p e1)
   ·rfl
def Sd(neg:Bool):Option Bool→Option AV
 |some b=>some (.pv (.bool (if neg then !b else b)))
 |none=>none
theorem HM{neg b:Bool}:Sd neg (some b)=some (.pv (.bool (if neg then !b else b))):=rfl
def Wo(cs:List CK)(neg:Bool):Option PV→Option PV→Option AV
 |some (.agg ps),some (.agg qs)=>Sd neg (dS cs ps qs)
 |_,_=>none
theorem HN{cs:List CK}{neg:Bool}{ps qs:List PV}:Wo cs neg (some (.agg ps)) (some (.agg qs))=Sd neg (dS cs ps qs):=rfl
def HO(sh:Sh):Option (AV×aG)→Option Out
 |some (v,ts)=>some ⟨v,none,sh,ts⟩
 |none=>none
theorem HP{v:AV}{ts:aG}:HO sh (some (v,ts))=some ⟨v,none,sh,ts⟩:=rfl
theorem KO{c:Prop}[Decidable c]{x y:Option (AV×aG)}:HO sh (if c then x else y)=if c then HO sh x else HO sh y:=by split<;>rfl
theorem jW{sz bytes:Nat}{s x:AV}:exec O (.append sz bytes) [s,x] cells sh aa=HO sh (bS sz bytes s x aa):=by
 show (bS sz bytes s x aa).map _=_;cases bS sz bytes s x aa<;>rfl
theorem nV{sz bytes:Nat}{x:AV}:exec O (.clone sz bytes) [x] cells sh aa=HO sh (bS sz bytes (.cY []) x aa):=by
 show (bS sz bytes (.cY []) x aa).map _=_;cases bS sz bytes (.cY []) x aa<;>rfl
def FN(sz bytes:Nat)(s:AV)(aa:aG):Option (List PV)→Option (AV×aG)
 |some xs=>if a_ sz xs=true then
   match s with
   | .cY l=>if xs.isEmpty=true then some (.cY l,aa) else if a_ sz l=true∧(l.length+xs.length)*bytes≤140737488355328 then
       some (.own (l++xs) aa.length,aa++[(l++xs).length]) else none
   | .own l τ=>if aa[τ]?=some l.length∧a_ sz l=true∧(l.length+xs.length)*bytes≤140737488355328 then
       some (.own (l++xs) τ,aa.set τ (l++xs).length) else none
   |_=>none
   else none
 |none=>none
theorem vf{sz bytes:Nat}{s x:AV}:bS sz bytes s x aa=FN sz bytes s aa (cf x):=by
 unfold bS FN;cases cf x<;>rfl
theorem HQ{sz bytes:Nat}{l xs:List PV}:FN sz bytes (.cY l) aa (some xs)=if a_ sz xs=true then if xs.isEmpty=true then some (.cY l,aa) else if a_ sz l=true∧(l.length+xs.length)*bytes≤140737488355328 then
       some (.own (l++xs) aa.length,aa++[(l++xs).length]) else none else none:=rfl
theorem HR{sz bytes τ:Nat}{l xs:List PV}:FN sz bytes (.own l τ) aa (some xs)=if a_ sz xs=true then if aa[τ]?=some l.length∧a_ sz l=true∧(l.length+xs.length)*bytes≤140737488355328 then
       some (.own (l++xs) τ,aa.set τ (l++xs).length) else none else none:=rfl
def Se(aa:aG):Option (AV×Sh)→Option Out
 |some (v,sh)=>some ⟨v,none,sh,aa⟩
 |none=>none
theorem HS{v:AV}{sh:Sh}:Se aa (some (v,sh))=some ⟨v,none,sh,aa⟩:=rfl
def KP(sz bytes:Nat)(ag:Bool)(s:AV)(sh:Sh)(aa:aG):Option (List PV)→Option Out
 |some xs=>if a_ sz xs=true then Se aa (rn sz bytes ag s xs sh aa) else none
 |none=>none
theorem CI{sz bytes:Nat}{ag:Bool}{s:AV}{xs:List PV}:KP sz bytes ag s sh aa (some xs)=if a_ sz xs=true then Se aa (rn sz bytes ag s xs sh aa) else none:=rfl
theorem lp{sz bytes:Nat}{ag:Bool}{s x:AV}:exec O (.dQ sz bytes ag) [s,x] cells sh aa=KP sz bytes ag s sh aa (cf x):=by
 simp only[exec,KP];cases cf x with
 |none=>rfl
 |some xs=>
   simp only;split
   ·cases rn sz bytes ag s xs sh aa<;>rfl
   ·rfl
def CJ(sz bytes:Nat)(ag:Bool)(b z n:Nat)(g:Bool)(xs:List PV)(sh:Sh):Option (Option (List AV))→Option (AV×Sh)
 |some (some cells)=>if z=sz∧g=ag∧bY cells=false∧n*sz≤cells.length∧(n+xs.length)*bytes≤140737488355328 then
       if xs.isEmpty=true then some (.aT b sz n ag,sh) else some (.aT sh.length sz (n+xs.length) ag,sh.set b none++[some (cells.take (n*sz)++(xs.flatMap aZ).map .pv)])
     else none
 |_=>none
theorem Aj{sz bytes:Nat}{ag:Bool}{b z n:Nat}{g:Bool}{xs:List PV}{cells:List AV}:CJ sz bytes ag b z n g xs sh (some (some cells))=if z=sz∧g=ag∧bY cells=false∧n*sz≤cells.length∧(n+xs.length)*bytes≤140737488355328 then
       if xs.isEmpty=true then some (.aT b sz n ag,sh) else some (.aT sh.length sz (n+xs.length) ag,sh.set b none++[some (cells.take (n*sz)++(xs.flatMap aZ).map .pv)])
     else none:=rfl
theorem KQ{sz bytes:Nat}{ag:Bool}{xs:List PV}:rn sz bytes ag (.cY []) xs sh aa=rm sz bytes ag (.cY []) xs sh:=rfl
theorem KR{sz bytes τ:Nat}{ag:Bool}{xs:List PV}:rn sz bytes ag (.own [] τ) xs sh aa=if aa[τ]?=some 0 then rm sz bytes ag (.own [] τ) xs sh else none:=rfl
theorem HT{sz bytes b z n:Nat}{ag g:Bool}{xs:List PV}:rn sz bytes ag (.aT b z n g) xs sh aa=CJ sz bytes ag b z n g xs sh sh[b]?:=by
 simp only[rn,CJ];rcases sh[b]? with _|_|cells<;>rfl
theorem On{sz bytes:Nat}{ag:Bool}{s:AV}{xs:List PV}:rm sz bytes ag s xs sh=if xs.isEmpty=true then some (s,sh) else if xs.length*bytes≤140737488355328 then some (.aT sh.length sz xs.length ag,sh++[some ((xs.flatMap aZ).map .pv)]) else none:=rfl
def Oo(r:List Nat)(t:Nat)(st:St)(v:AV):Option PV→St
 |some p=>nG r { st with env:=di st.env t (.pv p),sh:=c_ st.sh [v] }
 |none=>nG r (w5 v st)
def KU(d:Nat)(cs:List AV)(st:St):Option (List PV)→St
 |some ps=>{ st with mem:=di st.mem d (ps.map .pv),sh:=c_ st.sh [.agg cs] }
 |none=>st
def KX(d:Nat)(st:St):Option (List AV)→St
 |some cs=>KU d cs st (dF st.sh cs)
 |none=>st
theorem HU{d:Nat}{st:St}:w5 (.au d 0) st=KX d st (look st.mem d):=by
 simp only[w5];cases look st.mem d with
 |none=>rfl
 |some cs=>
   simp only[KX];cases dF st.sh cs<;>rfl
def KY(b:Nat)(st:St):Option (Option (List AV))→St
 |some (some cs)=>{ st with sh:=st.sh.set b (some ((cs.take (cs.length / 2)).map nJ++cs.drop (cs.length / 2))) }
 |_=>st
theorem HV{b:Nat}{st:St}:w5 (.aM b 0) st=KY b st st.sh[b]?:=by
 simp only[w5,KY];rcases st.sh[b]? with _|_|cs<;>rfl
theorem CL{b:Nat}{st:St}{cs:List AV}:KY b st (some (some cs))={ st with sh:=st.sh.set b (some ((cs.take (cs.length / 2)).map nJ++cs.drop (cs.length / 2))) }:=rfl
theorem HW{l:List PV}:nJ (.cY l)=.pv (.aw l):=rfl
theorem KZ{p:PV}:nJ (.pv p)=.pv p:=rfl
theorem CM{d:Nat}{st:St}{cs:List AV}:KX d st (some cs)=KU d cs st (dF st.sh cs):=rfl
theorem CN{d:Nat}{st:St}{cs:List AV}{ps:List PV}:KU d cs st (some ps)={ st with mem:=di st.mem d (ps.map .pv),sh:=c_ st.sh [.agg cs] }:=rfl
def Sf(r:List Nat)(t:Nat)(st:St):Option AV→St
 |some v=>Oo r t st v (bR st.sh v)
 |none=>nG r st
theorem K0{st:St}:nG [] st=st:=rfl
theorem HX{t:Nat}{r:List Nat}{st:St}:nG (t::r) st=Sf r t st (look st.env t):=by
 simp only[nG];cases look st.env t with
 |none=>rfl
 |some v=>
   simp only[Sf];cases bR st.sh v<;>rfl
theorem HY{r:List Nat}{t:Nat}{st:St}{v:AV}:Sf r t st (some v)=Oo r t st v (bR st.sh v):=rfl
theorem HZ{r:List Nat}{t:Nat}{st:St}{v:AV}{p:PV}:Oo r t st v (some p)=nG r { st with env:=di st.env t (.pv p),sh:=c_ st.sh [v] }:=rfl
theorem H0{r:List Nat}{t:Nat}{st:St}{v:AV}:Oo r t st v none=nG r (w5 v st):=rfl
def Wp(aa:aG):Option Sh→Option Out
 |some sh=>some ⟨.pJ [],none,sh,aa⟩
 |none=>none
theorem H3{sh:Sh}:Wp aa (some sh)=some ⟨.pJ [],none,sh,aa⟩:=rfl
def Sg(sz:Nat)(zero:List PV)(sh:Sh)(b off n:Nat):Option (Option (List AV))→Option Sh
 |some (some cells)=>if bY cells=false∧off+n*sz≤cells.length∧zero.length=sz then some (sh.set b (some (aR cells off (List.replicate n (zero.map .pv)).flatten))) else none
 |_=>none
theorem Ao{sz b off n:Nat}{zero:List PV}{cells:List AV}:Sg sz zero sh b off n (some (some cells))=if bY cells=false∧off+n*sz≤cells.length∧zero.length=sz then some (sh.set b (some (aR cells off (List.replicate n (zero.map .pv)).flatten))) else none:=rfl
def tw(sz:Nat)(sh:Sh)(aa:aG)(x:AV):Option (List PV)→Option Out
 |some xs=>K1 aa (sF sz sh xs x)
 |none=>none
where K1 (aa:aG):Option (Nat×Sh)→Option Out
 |some (k,sh')=>some ⟨.pv (.int .i64 (k:Int)),none,sh',aa⟩
 |none=>none
theorem Ap{sz:Nat}{x:AV}{xs:List PV}:tw sz sh aa x (some xs)=tw.K1 aa (sF sz sh xs x):=rfl
theorem CO{k:Nat}{sh':Sh}:tw.K1 aa (some (k,sh'))=some ⟨.pv (.int .i64 (k:Int)),none,sh',aa⟩:=rfl
theorem lj{sz:Nat}{x y:AV}:exec O (.lS sz) [x,y] cells sh aa=tw sz sh aa x (cf y):=by
 simp only[exec,tw];cases cf y with
 |none=>rfl
 |some xs=>simp only;cases sF sz sh xs x<;>rfl
def Ue(sz:Nat)(sh:Sh)(xs:List PV)(b z n:Nat):Option (Option (List AV))→Option (Nat×Sh)
 |some (some cells)=>if z=sz∧a_ sz xs=true∧bY cells=false∧n*sz≤cells.length then
       some (min xs.length n,sh.set b (some (aR cells 0 (((xs.take n).flatMap aZ).map .pv)))) else none
 |_=>none
theorem CP{sz b z n:Nat}{xs:List PV}{cells:List AV}:Ue sz sh xs b z n (some (some cells))=if z=sz∧a_ sz xs=true∧bY cells=false∧n*sz≤cells.length then
       some (min xs.length n,sh.set b (some (aR cells 0 (((xs.take n).flatMap aZ).map .pv)))) else none:=rfl
theorem H4{s:Nat}:AK.key (.lS s)=none:=rfl
def Aq(sz bytes:Nat)(sh:Sh)(aa:aG)(s e:AV):Option (List PV)→Option Out
 |some xs=>Si sh aa (nS sz bytes xs s e aa)
 |none=>none
where Si (sh:Sh) (aa:aG):Option PV→Option Out
 |some p=>some ⟨.pv p,none,sh,aa⟩
 |none=>none
theorem CQ{sz bytes:Nat}{s e:AV}{xs:List PV}:Aq sz bytes sh aa s e (some xs)=Aq.Si sh aa (nS sz bytes xs s e aa):=rfl
theorem H5{p:PV}:Aq.Si sh aa (some p)=some ⟨.pv p,none,sh,aa⟩:=rfl
theorem iY{sz bytes:Nat}{s x e:AV}:exec O (.ga sz bytes) [s,x,e] cells sh aa=Aq sz bytes sh aa s e (cf x):=by
 simp only[exec,Aq];cases cf x with
 |none=>rfl
 |some xs=>simp only;cases nS sz bytes xs s e aa<;>rfl
theorem K2{sz bytes τ σ:Nat}{xs l m:List PV}:nS sz bytes xs (.own l τ) (.own m σ) aa=if τ=σ∧aa[τ]?=some m.length∧m.length=l.length+xs.length∧a_ 1 l=true∧a_ 1 xs=true∧sz=1 ∧
     dK (m.drop l.length) xs=true∧xs.isEmpty=false∧m.length*bytes≤140737488355328 then some (.aw (l++xs)) else none:=rfl
theorem H6:dK [] []=true:=rfl
theorem CR{a b:List UInt8}{r q:List PV}:dK (.str a::r) (.str b::q)=((a == b) && dK r q):=rfl
theorem Au{s b:Nat}:AK.key (.ga s b)=none:=rfl
theorem CS{s:Nat}{z:List PV}:AK.key (.jd s z)=none:=rfl
theorem CT{sz b n:Nat}{ag lo hi:Bool}{rest:List AV}:bA (.Cb sz lo hi) (.aT b sz n ag::rest)=oI sz lo hi (.aT b sz n ag::rest):=rfl
theorem K3{l:List PV}:cf (.pv (.aw l))=some l:=rfl
theorem H7{l:List PV}:cf (.cY l)=some l:=rfl
theorem H8{l:List PV}{τ:Nat}:cf (.own l τ)=some l:=rfl
theorem CU{sz:Nat}:a_ sz []=true:=rfl
theorem Av{sz:Nat}{p:PV}{r:List PV}:a_ sz (p::r)=((aZ p).length == sz):=rfl
def Sj(sh:Sh)(aa:aG):Option (List PV)→Option Out
 |some rs=>some ⟨sG rs,none,sh,aa⟩
 |none=>none
theorem H9{rs:List PV}:Sj sh aa (some rs)=some ⟨sG rs,none,sh,aa⟩:=rfl
def K4(O:eH)(g:Nat):Option (List PV)→Option (List PV)
 |some cz=>O.p g cz
 |none=>none
theorem oi{g:Nat}{cz:List PV}:K4 O g (some cz)=O.p g cz:=rfl
theorem CV{g:Nat}:exec O (.aJ g) vals cells sh aa=Sj sh aa (K4 O g (cU [] vals)):=by
 show (match cU [] vals with|some cz=>_|none=>none)=_;split
 ·rename_i cz h;rw[h,oi];cases O.p g cz<;>rfl
 ·rename_i h;rw[h];rfl
theorem Aw{g:Nat}:exec O (.d0 g) vals cells sh aa=Sj (c_ sh vals) aa (K4 O g (cU sh vals)):=by
 show (match cU sh vals with|some cz=>_|none=>none)=_;split
 ·rename_i cz h;rw[h,oi];cases O.p g cz<;>rfl
 ·rename_i h;rw[h];rfl
def Sk(n:Nat)(ts0:aG):Option (List AV×Sh×aG)→Option Out
 |some (rs,sh',ts)=>some ⟨oJ (rs.map (cm n)),none,gi n sh',ts0++ts⟩
 |none=>none
theorem H_{n:Nat}{ts0:aG}{rs:List AV}{sh':Sh}{ts:aG}:Sk n ts0 (some (rs,sh',ts))=some ⟨oJ (rs.map (cm n)),none,gi n sh',ts0++ts⟩:=rfl
def FO(O:eH)(g n:Nat)(q:List AV×Sh×aG×aG):Option Out:=Sk n q.2.2.1 (O.i g q.1 q.2.1 q.2.2.2)
theorem K5{g n:Nat}{a:List AV}{s:Sh}{o t:aG}:FO O g n (a,s,o,t)=Sk n o (O.i g a s t):=rfl
def v7(O:eH)(g:Nat)(args:List AV)(sh:Sh)(aa:aG):Option Out:=
 if args.all bE=true then FO O g aa.length (cZ aa args sh) else none
theorem K6{g:Nat}{args:List AV}:v7 O g args sh aa=if args.all bE=true then FO O g aa.length (cZ aa args sh) else none:=rfl
theorem mE{g:Nat}{own:List Nat}:(dU O g own vals sh aa).map (fun (v,sh',ts)=>(⟨v,none,sh',ts⟩:Out))=v7 O g (dO own 0 vals) sh aa:=by
 unfold dU v7 FO;split
 · cases O.i g (cZ aa (dO own 0 vals) sh).1 (cZ aa (dO own 0 vals) sh).2.1 (cZ aa (dO own 0 vals) sh).2.2.2 with
   |none=>rfl
   |some q=>obtain⟨a,b,c⟩:=q;rfl
 ·rfl
theorem CW{g:Nat}{own:List Nat}:exec O (.bp g own) vals cells sh aa=v7 O g (dO own 0 vals) sh aa:=mE
theorem CX{g:Nat}{cap:List AV}:exec O .ir (.fn g cap::vals) cells sh aa=v7 O g (dO [] 0 (vals++cap)) sh aa:=mE (vals:=vals++cap)
def WQ(sh:Sh):Option Out→Option Out
 |some o=>if nF o.sh sh=true then some ⟨o.val,none,sh,o.aa⟩ else none
 |none=>none
theorem K7{v:AV}{c:Option (List AV)}{s:Sh}{t:aG}:WQ sh (some ⟨v,c,s,t⟩)=if nF s sh=true then some ⟨v,none,sh,t⟩ else none:=rfl
theorem Ax{g:Nat}{cap:List AV}:exec O .eS (.fn g cap::vals) cells sh aa=WQ sh (v7 O g (dO [] 0 (vals++cap)) sh aa):=by
 rw[←mE];simp only[exec];cases dU O g [] (vals++cap) sh aa with
 |none=>rfl
 |some q=>obtain⟨v,s,t⟩:=q;rfl
theorem CY:AK.key .eS=none:=rfl
theorem K8:uM [] []=true:=rfl
theorem H'{a b:AV}{r q:List AV}:uM (a::r) (b::q)=(TZ a b && uM r q):=rfl
theorem K9:nF [] []=true:=rfl
theorem Ia{a b:List AV}{r q:Sh}:nF (some a::r) (some b::q)=(uM a b && nF r q):=rfl
def b2sO:Option (List UInt8)→Option AV
 |some s=>some (.pv (.str s))
 |none=>none
theorem b2sO_some{s:List UInt8}:b2sO (some s)=some (.pv (.str s)):=rfl
def Uf(sh:Sh)(aa:aG):Option (List AV×Sh×aG)→Option Out
 |some (rs,[],ts)=>some ⟨oJ (rs.map (cm aa.length)),none,sh,aa++ts⟩
 |_=>none
theorem Ib{rs:List AV}{ts:aG}:Uf sh aa (some (rs,[],ts))=some ⟨oJ (rs.map (cm aa.length)),none,sh,aa++ts⟩:=rfl
def K_(O:eH)(g:Nat):Option (List PV)→Option (List AV×Sh×aG)
 |some cz=>O.i g (cz.map .pv) [] []
 |none=>none
theorem qM{g:Nat}{cz:List PV}:K_ O g (some cz)=O.i g (cz.map .pv) [] []:=rfl
theorem CZ{g:Nat}:exec O (.je g) vals cells sh aa=Uf sh aa (K_ O g (cU [] vals)):=by
 show (match cU [] vals with|some cz=>_|none=>none)=_;split
 · rename_i cz h;rw[h,qM];cases O.i g (cz.map .pv) [] [] with
   |none=>rfl
   |some q=>
     obtain⟨a,b,c⟩:=q;cases b<;>rfl
 ·rename_i h;rw[h];rfl
theorem C2{own:List Nat}{i:Nat}:dO own i []=[]:=rfl
theorem Ay{own:List Nat}{i:Nat}{v:AV}{r:List AV}:dO own i (v::r)=(if own.contains i then v else kA v)::dO own (i+1) r:=rfl
theorem La{p:PV}:kA (.pv p)=.pv p:=rfl
theorem Ic{l:List PV}:kA (.cY l)=.pv (.aw l):=rfl
theorem Ie{l:List PV}{τ:Nat}:kA (.own l τ)=.pv (.aw l):=rfl
theorem C3{b o:Nat}:kA (.aM b o)=.aM b o:=rfl
theorem Lb{g:Nat}{cap:List AV}:kA (.fn g cap)=.fn g cap:=rfl
theorem C4{b s n:Nat}{ag:Bool}:kA (.aT b s n ag)=.aT b s n ag:=rfl
theorem C5{s:Nat}:kA (.fR s)=(.fR s):=rfl
def C6(cs:List AV):Option (List PV)→AV
 |some ps=>.pv (.agg ps)
 |none=>.agg cs
theorem Ig{cs:List AV}:kA (.agg cs)=C6 cs (dF [] cs):=by
 have h:bR [] (.agg cs)=(dF [] cs).map .agg:=rfl;unfold kA C6;rw[h];cases dF [] cs<;>rfl
theorem Az{cs:List AV}{ps:List PV}:C6 cs (some ps)=.pv (.agg ps):=rfl
def pb{α:Type}:Option α→Option (List α)→Option (List α)
 |some x,some l=>some (x::l)
 |_,_=>none
theorem C7{α:Type}{x:α}{l:List α}:pb (some x) (some l)=some (x::l):=rfl
theorem C8{env:List (Nat×AV)}:d3 env []=some []:=rfl
theorem AA{env:List (Nat×AV)}{x:eG}{r:List eG}:d3 env (x::r)=pb (gX env x) (d3 env r):=by
 simp only[d3];cases gX env x<;>cases d3 env r<;>rfl
theorem Oq{env:List (Nat×AV)}{n:Nat}:gX env (.t n)=look env n:=rfl
theorem Ot{env:List (Nat×AV)}{v:AV}:gX env (.c v)=some v:=rfl
theorem Lc:fC []=some []:=rfl
theorem pX{v:AV}{r:List AV}:fC (v::r)=pb (me v) (fC r):=by
 simp only[fC];cases me v<;>cases fC r<;>rfl
theorem C_:cU sh []=some []:=rfl
theorem AB{v:AV}{r:List AV}:cU sh (v::r)=pb (bR sh v) (cU sh r):=by
 simp only[cU];cases bR sh v<;>cases cU sh r<;>rfl
theorem Ih:dF sh []=some []:=rfl
theorem Da{v:AV}{r:List AV}:dF sh (v::r)=if a0 v=true then pb (dR sh v) (dF sh r) else none:=by
 simp only[dF];split
 ·cases dR sh v<;>cases dF sh r<;>rfl
 ·rfl
theorem Ou{p:PV}:me (.pv p)=some p:=rfl
theorem Sn{p:PV}:bR sh (.pv p)=some p:=rfl
theorem Ov{l:List PV}:bR sh (.cY l)=some (.aw l):=rfl
theorem Ow{l:List PV}{τ:Nat}:bR sh (.own l τ)=some (.aw l):=rfl
def Ug:Option (List PV)→Option PV
 |some ps=>some (.agg ps)
 |none=>none
theorem Ii{ps:List PV}:Ug (some ps)=some (.agg ps):=rfl
theorem Ox{cs:List AV}:bR sh (.agg cs)=Ug (dF sh cs):=by
 simp only[bR];cases dF sh cs<;>rfl
theorem Db{p:PV}:dR sh (.pv p)=some p:=rfl
theorem AD{l:List PV}:dR sh (.cY l)=some (.aw l):=rfl
theorem AE{l:List PV}{τ:Nat}:dR sh (.own l τ)=some (.aw l):=rfl
theorem Ld{b o:Nat}:bR sh (.aM b o)=none:=rfl
def Oy(sz n:Nat)(ag:Bool):Option (Option (List AV))→Option PV
 |some (some cells)=>if cells.length=n*sz then ((fC cells).bind (fD sz ag n)).map .aw
   else if bY cells=false∧n*sz≤cells.length then ((fC (cells.take (n*sz))).bind (fD sz ag n)).map .aw else none
 |_=>none
theorem xQ{b sz n:Nat}{ag:Bool}:dR sh (.aT b sz n ag)=Oy sz n ag sh[b]?:=rfl
theorem Le{b sz n:Nat}{ag:Bool}:bR sh (.aT b sz n ag)=Oy sz n ag sh[b]?:=rfl
theorem Ij{sz n:Nat}{ag:Bool}{cells:List AV}:Oy sz n ag (some (some cells))=if cells.length=n*sz then ((fC cells).bind (fD sz ag n)).map .aw else if bY cells=false∧n*sz≤cells.length then ((fC (cells.take (n*sz))).bind (fD sz ag n)).map .aw else none:=rfl
theorem Lf{r:PV}:sG [r]=.pv r:=rfl
theorem Lg{a b:PV}{r:List PV}:sG (a::b::r)=.pJ (.pv a::.pv b::r.map .pv):=rfl
theorem Lh{r:AV}:oJ [r]=r:=rfl
theorem Li:oJ []=.pJ []:=rfl
theorem Lj{a b:AV}{r:List AV}:oJ (a::b::r)=.pJ (a::b::r):=rfl
theorem Lk{xs:List AV}:cZ aa xs sh=((bn aa [] xs).1,(cg (bn aa [] xs).2.1 (bn aa [] xs).2.2 sh).1,(cg (bn aa [] xs).2.1 (bn aa [] xs).2.2 sh).2.1,(cg (bn aa [] xs).2.1 (bn aa [] xs).2.2 sh).2.2):=rfl
theorem Ik{aN ts:aG}:bn aN ts []=([],aN,ts):=rfl
theorem tz{aN ts:aG}{v:AV}{r:List AV}:bn aN ts (v::r)=((bF aN ts v).1::(bn (bF aN ts v).2.1 (bF aN ts v).2.2 r).1,(bn (bF aN ts v).2.1 (bF aN ts v).2.2 r).2):=rfl
theorem v9{aN ts:aG}:cg aN ts []=([],aN,ts):=rfl
theorem tD{aN ts:aG}{r:Sh}:cg aN ts (none::r)=(none::(cg aN ts r).1,(cg aN ts r).2):=rfl
theorem oj{aN ts:aG}{cs:List AV}{r:Sh}:cg aN ts (some cs::r)=(some (bn aN ts cs).1::(cg (bn aN ts cs).2.1 (bn aN ts cs).2.2 r).1,(cg (bn aN ts cs).2.1 (bn aN ts cs).2.2 r).2):=rfl
theorem Il{aN ts:aG}:dr aN ts []=([],aN,ts):=rfl
theorem Dc{aN ts:aG}{t:Nat}{v:AV}{r:List (Nat×AV)}:dr aN ts ((t,v)::r)=((t,(bF aN ts v).1)::(dr (bF aN ts v).2.1 (bF aN ts v).2.2 r).1,(dr (bF aN ts v).2.1 (bF aN ts v).2.2 r).2):=rfl
theorem Im{aN ts:aG}:eV aN ts []=([],aN,ts):=rfl
theorem Dd{aN ts:aG}{t:Nat}{v:List AV}{r:List (Nat×List AV)}:eV aN ts ((t,v)::r)=((t,(bn aN ts v).1)::(eV (bn aN ts v).2.1 (bn aN ts v).2.2 r).1,(eV (bn aN ts v).2.1 (bn aN ts v).2.2 r).2):=rfl
theorem Io{aN ts:aG}{l:List PV}{τ:Nat}:bF aN ts (.own l τ)=if aN[τ]?=some l.length then (.own l ts.length,aN.set τ (l.length+1),ts++[l.length]) else (.pv (.aw l),aN,ts):=rfl
theorem Ip{aN ts:aG}{l:List PV}:bF aN ts (.cY l)=(.own l ts.length,aN,ts++[l.length]):=rfl
theorem AF{aN ts:aG}{p:PV}:bF aN ts (.pv p)=(.pv p,aN,ts):=rfl
def De(aN ts:aG)(p:List AV):Bool→AV×aG×aG
 |true=>(.agg p,aN,ts)
 |false=>(.agg (cK aN ts p).1,(cK aN ts p).2.1,(cK aN ts p).2.2)
theorem Iq{aN ts:aG}{p:List AV}:bF aN ts (.agg p)=De aN ts p (bD.ew p):=by
 simp only[bF];cases bD.ew p<;>rfl
theorem AG{aN ts:aG}{p:List AV}:De aN ts p true=(.agg p,aN,ts):=rfl
theorem xR{aN ts:aG}{p:List AV}:De aN ts p false=(.agg (cK aN ts p).1,(cK aN ts p).2.1,(cK aN ts p).2.2):=rfl
theorem Df{aN ts:aG}:cK aN ts []=([],aN,ts):=rfl
theorem AH{aN ts:aG}{v:AV}{r:List AV}:cK aN ts (v::r)=((d7 aN ts v).1::(cK (d7 aN ts v).2.1 (d7 aN ts v).2.2 r).1,(cK (d7 aN ts v).2.1 (d7 aN ts v).2.2 r).2):=rfl
theorem Ir{aN ts:aG}{l:List PV}{τ:Nat}:d7 aN ts (.own l τ)=if aN[τ]?=some l.length then (.own l ts.length,aN.set τ (l.length+1),ts++[l.length]) else (.pv (.aw l),aN,ts):=rfl
theorem Ll{aN ts:aG}{p:PV}:d7 aN ts (.pv p)=(.pv p,aN,ts):=rfl
theorem Dg{aN ts:aG}{a b c:Nat}{d:Bool}:d7 aN ts (.aT a b c d)=(.aT a b c d,aN,ts):=rfl
theorem Di{aN ts:aG}{a b:Nat}:bF aN ts (.au a b)=(.au a b,aN,ts):=rfl
theorem Dj{aN ts:aG}{a b:Nat}:bF aN ts (.aM a b)=(.aM a b,aN,ts):=rfl
theorem Dk{aN ts:aG}{a b c:Nat}{d:Bool}:bF aN ts (.aT a b c d)=(.aT a b c d,aN,ts):=rfl
theorem Lm{aN ts:aG}{a:Nat}{c:List AV}:bF aN ts (.fn a c)=(.fn a c,aN,ts):=rfl
theorem Dl{aN ts:aG}:bF aN ts .fw=(.fw,aN,ts):=rfl
theorem Dm{s:Nat}{aN ts:aG}:bF aN ts (.fR s)=((.fR s),aN,ts):=rfl
theorem Dp{s:List (PV×PV)}{aN ts:aG}:bF aN ts (.dB s)=((.dB s),aN,ts):=rfl
theorem Oz{env:List (Nat×AV)}{mem:List (Nat×List AV)}:norm ⟨env,mem,sh,aa⟩ =
   { env:=(dr aa [] env).1,
     mem:=(eV (dr aa [] env).2.1 (dr aa [] env).2.2 mem).1,
     sh:=(cg (eV (dr aa [] env).2.1 (dr aa [] env).2.2 mem).2.1 (eV (dr aa [] env).2.1 (dr aa [] env).2.2 mem).2.2 sh).1,
     aa:=(cg (eV (dr aa [] env).2.1 (dr aa [] env).2.2 mem).2.1 (eV (dr aa [] env).2.1 (dr aa [] env).2.2 mem).2.2 sh).2.2 }:=rfl
theorem AI{live:List Nat}{env:List (Nat×AV)}{mem:List (Nat×List AV)}:restrict live ⟨env,mem,sh,aa⟩=⟨bB live env live,bJ mem live,sh,aa⟩:=rfl
def Ln(live:List Nat)(t:Nat)(rest:List (Nat×AV)):Option AV→List (Nat×AV)
 |some v=>if dW live v=true then (t,v)::rest else rest
 |none=>rest
theorem Dq{live:List Nat}{t:Nat}{rest:List (Nat×AV)}{v:AV}:Ln live t rest (some v)=if dW live v=true then (t,v)::rest else rest:=rfl
theorem Dr{live:List Nat}{t:Nat}{rest:List (Nat×AV)}:Ln live t rest none=rest:=rfl
theorem rD{live:List Nat}{env:List (Nat×AV)}:bB live env []=[]:=rfl
theorem pY{live:List Nat}{env:List (Nat×AV)}{t:Nat}{r:List Nat}:bB live env (t::r)=Ln live t (bB live env r) (look env t):=by
 show (match look env t with|some v=>_|none=>_)=_;cases look env t<;>rfl
def Lo(t:Nat)(rest:List (Nat×List AV)):Option (List AV)→List (Nat×List AV)
 |some v=>(t,v)::rest
 |none=>rest
theorem Du{t:Nat}{rest:List (Nat×List AV)}{v:List AV}:Lo t rest (some v)=(t,v)::rest:=rfl
theorem Dw{t:Nat}{rest:List (Nat×List AV)}:Lo t rest none=rest:=rfl
theorem rE{mem:List (Nat×List AV)}:bJ mem []=[]:=rfl
theorem pZ{mem:List (Nat×List AV)}{t:Nat}{r:List Nat}:bJ mem (t::r)=Lo t (bJ mem r) (look mem t):=by
 show (match look mem t with|some v=>_|none=>_)=_;cases look mem t<;>rfl
theorem Dx{live:List Nat}{d o:Nat}:dW live (.au d o)=live.contains d:=rfl
theorem Is{live:List Nat}{l:List PV}{τ:Nat}:dW live (.own l τ)=true:=rfl
theorem Lp{live:List Nat}{p:PV}:dW live (.pv p)=true:=rfl
theorem Iu{live:List Nat}{l:List PV}:dW live (.cY l)=true:=rfl
theorem Dy:eT []=true:=rfl
theorem AJ{v:AV}{r:List AV}:eT (v::r)=(jN v && eT r):=rfl
theorem Lq{p:PV}:jN (.pv p)=true:=rfl
theorem Iv{l:List PV}:jN (.cY l)=true:=rfl
theorem Dz{live:List Nat}{a b:Nat}:dW live (.aM a b)=true:=rfl
theorem DA{live:List Nat}{a b c:Nat}{d:Bool}:dW live (.aT a b c d)=true:=rfl
theorem Lr{live:List Nat}{a:Nat}{c:List AV}:dW live (.fn a c)=bD.ew c:=rfl
theorem DB{live:List Nat}:dW live .fw=true:=rfl
theorem DC{s:Nat}{live:List Nat}:dW live (.fR s)=true:=rfl
theorem look_nil{α:Type}{t:Nat}:look ([]:List (Nat×α)) t=none:=rfl
theorem Iw{α:Type}{k t:Nat}{v:α}{r:List (Nat×α)}:look ((k,v)::r) t=if k=t then some v else look r t:=rfl
theorem Ls{α:Type}{t:Nat}{v:α}:di ([]:List (Nat×α)) t v=[(t,v)]:=rfl
theorem Iy{α:Type}{k t:Nat}{v u:α}{r:List (Nat×α)}:di ((k,v)::r) t u=if k=t then (k,u)::r else (k,v)::di r t u:=rfl
theorem Iz{env:List (Nat×AV)}{d:Nat}{v:AV}:fG env (some d) v=di env d v:=rfl
theorem IA{env:List (Nat×AV)}{v:AV}:fG env none v=env:=rfl
theorem IB{mem:List (Nat×List AV)}{k:Nat}{cs:List AV}:ez mem (some k) (some cs)=di mem k cs:=rfl
theorem eD{mem:List (Nat×List AV)}{o:Option (List AV)}:ez mem none o=mem:=rfl
theorem DD{mem:List (Nat×List AV)}{k:Nat}:ez mem (some k) none=mem:=rfl
theorem xS{i:Nat}:ca i []=[]:=rfl
theorem vg{i:Nat}{v:AV}{r:List AV}:ca i (v::r)=(i,v)::ca (i+1) r:=rfl
theorem DE{cs:List AV}:aX (.agg cs)=cs:=rfl
theorem AL{cs:List PV}:aX (.pv (.agg cs))=cs.map .pv:=rfl
theorem AM{b:Bool}:aX (.pv (.bool b))=[.pv (.bool b)]:=rfl
theorem DF{k:IntKind}{n:Int}:aX (.pv (.int k n))=[.pv (.int k n)]:=rfl
theorem DG{s:List UInt8}:aX (.pv (.str s))=[.pv (.str s)]:=rfl
theorem DH{l:List PV}:aX (.pv (.aw l))=[.pv (.aw l)]:=rfl
theorem DI{l:List PV}:aX (.cY l)=[.cY l]:=rfl
theorem DJ{l:List PV}{τ:Nat}:aX (.own l τ)=[.own l τ]:=rfl
theorem AN{a b c:Nat}{d:Bool}:aX (.aT a b c d)=[.aT a b c d]:=rfl
theorem DK{cs:List PV}:aZ (.agg cs)=cs:=rfl
theorem AO{b:Bool}:aZ (.bool b)=[.bool b]:=rfl
theorem DL{k:IntKind}{n:Int}:aZ (.int k n)=[.int k n]:=rfl
theorem DM{s:List UInt8}:aZ (.str s)=[.str s]:=rfl
theorem DN{l:List PV}:aZ (.aw l)=[.aw l]:=rfl
theorem DO{b:Bool}:a0 (.pv (.bool b))=true:=rfl
theorem IC{k:IntKind}{n:Int}:a0 (.pv (.int k n))=true:=rfl
theorem ID{s:List UInt8}:a0 (.pv (.str s))=true:=rfl
theorem IE{l:List PV}:a0 (.pv (.aw l))=true:=rfl
theorem IF{l:List PV}:a0 (.cY l)=true:=rfl
theorem IG{l:List PV}{τ:Nat}:a0 (.own l τ)=true:=rfl
theorem DP{a b c:Nat}{d:Bool}:a0 (.aT a b c d)=true:=rfl
theorem Lt{v:AV}:cI v=a0 v:=rfl
theorem DQ{a b:Nat}:bM (.aM a b)=true:=rfl
theorem II:bM.iu []=true:=rfl
theorem DR{v:AV}{r:List AV}:bM.iu (v::r)=(bM v && bM.iu r):=rfl
theorem IJ{l:List PV}{τ:Nat}:bE (.own l τ)=true:=rfl
theorem Lu{p:PV}:bE (.pv p)=true:=rfl
theorem IK{l:List PV}:bE (.cY l)=true:=rfl
theorem DS{a b:Nat}:bE (.aM a b)=true:=rfl
theorem DT{a b c:Nat}{d:Bool}:bE (.aT a b c d)=true:=rfl
theorem DU:bE .fw=true:=rfl
theorem DV{s:Nat}:bE (.fR s)=true:=rfl
theorem Lv{a:Nat}{c:List AV}:bE (.fn a c)=bM.iu c:=rfl
theorem IL{c:List AV}:bE (.agg c)=eU c:=rfl
theorem DW:eU []=true:=rfl
theorem AQ{v:AV}{r:List AV}:eU (v::r)=(kB v && eU r):=rfl
theorem IM{l:List PV}{τ:Nat}:kB (.own l τ)=true:=rfl
theorem Lx{p:PV}:kB (.pv p)=true:=rfl
theorem IN{l:List PV}:kB (.cY l)=true:=rfl
theorem DX{a b c:Nat}{d:Bool}:kB (.aT a b c d)=true:=rfl
theorem IP:bD.ew []=true:=rfl
theorem DY{v:AV}{r:List AV}:bD.ew (v::r)=(bD v && bD.ew r):=rfl
theorem Ly{p:PV}:bD (.pv p)=true:=rfl
theorem IQ{l:List PV}:bD (.cY l)=true:=rfl
theorem IS{l:List PV}{τ:Nat}:bD (.own l τ)=false:=rfl
theorem DZ{a b:Nat}:bD (.aM a b)=true:=rfl
theorem D2{a b c:Nat}{d:Bool}:bD (.aT a b c d)=true:=rfl
theorem IT{n:Nat}{p:PV}:aI n (.pv p)=true:=rfl
theorem D3{n:Nat}{l:List PV}:aI n (.cY l)=true:=rfl
theorem D4{n:Nat}{l:List PV}{τ:Nat}:aI n (.own l τ)=true:=rfl
theorem AR{n:Nat}:aI n .fw=true:=rfl
theorem AS{n a b:Nat}:aI n (.aM a b)=decide (a<n):=rfl
theorem AT{n a b c:Nat}{d:Bool}:aI n (.aT a b c d)=decide (a<n):=rfl
theorem IU{n a:Nat}{c:List AV}:aI n (.fn a c)=aI.cD n c:=rfl
theorem D5{n:Nat}{c:List AV}:aI n (.agg c)=aI.cD n c:=rfl
theorem AU{n:Nat}:aI.cD n []=true:=rfl
theorem xT{n:Nat}{v:AV}{r:List AV}:aI.cD n (v::r)=(aI n v && aI.cD n r):=rfl
theorem D6{n τ:Nat}{l:List PV}:cm n (.own l τ)=.own l (τ+n):=rfl
theorem v_{n:Nat}{p:PV}:cm n (.pv p)=.pv p:=rfl
def xU(n:Nat)(p:List AV):Bool→AV
 |true=>.agg p
 |false=>.agg (p.map (iI n))
theorem D7{n:Nat}{p:List AV}:cm n (.agg p)=xU n p (bD.ew p):=by
 simp only[cm];cases bD.ew p<;>rfl
theorem xW{n:Nat}{p:List AV}:xU n p true=.agg p:=rfl
theorem vh{n:Nat}{p:List AV}:xU n p false=.agg (p.map (iI n)):=rfl
theorem D8{n τ:Nat}{l:List PV}:iI n (.own l τ)=.own l (τ+n):=rfl
theorem IV{n:Nat}{p:PV}:iI n (.pv p)=.pv p:=rfl
theorem AW{n a b c:Nat}{d:Bool}:iI n (.aT a b c d)=.aT a b c d:=rfl
theorem AX{n a b:Nat}:cm n (.aM a b)=.aM a b:=rfl
theorem IW{n a:Nat}{b:List AV}:cm n (.fn a b)=.fn a b:=rfl
theorem AY{n a b c:Nat}{d:Bool}:cm n (.aT a b c d)=.aT a b c d:=rfl
theorem AZ{n:Nat}:cm n .fw=.fw:=rfl
theorem A0{s:List (PV×PV)}{n:Nat}:cm n (.dB s)=(.dB s):=rfl
theorem D9{n:Nat}:gi n []=[]:=rfl
theorem qN{n:Nat}{r:Sh}:gi n (none::r)=none::gi n r:=rfl
theorem qO{n:Nat}{cs:List AV}{r:Sh}:gi n (some cs::r)=some (cs.map (cm n))::gi n r:=rfl
theorem vi{b:Bool}:bA.zeroCell (.bool b)=.pv (.bool b):=rfl
theorem xX{k:IntKind}{n:Int}:bA.zeroCell (.int k n)=.pv (.int k n):=rfl
theorem xY{s:List UInt8}:bA.zeroCell (.str s)=.pv (.str s):=rfl
theorem xZ:bA.zeroCell (.aw [])=.cY []:=rfl
theorem A1{l:List PV}{τ:Nat}:cE (.own l τ)=[.own l τ]:=rfl
theorem Ea{p:PV}:cE (.pv p)=aX (.pv p):=rfl
theorem x4{a b c:Nat}{d:Bool}:cE (.aT a b c d)=[.aT a b c d]:=rfl
def FP(cs:List AV):Option (List PV)→List AV
 |some ps=>ps.map .pv
 |none=>cs
theorem A3{cs:List AV}:cE (.agg cs)=FP cs (dF [] cs):=by
 show (match bR [] (.agg cs) with|some p=>aX (.pv p)|none=>aX (.agg cs))=_;have h:bR [] (.agg cs)=(dF [] cs).map .agg:=rfl;unfold FP;rw[h];cases dF [] cs<;>rfl
theorem Eb{cs:List AV}{ps:List PV}:FP cs (some ps)=ps.map .pv:=rfl
theorem tE{cs:List AV}:FP cs none=cs:=rfl
theorem Uh{o:N2}:AK.key (.v o)=none:=rfl
theorem IX{k o s:Nat}{a:Bool}:AK.key (.cd k o s a)=some k:=rfl
theorem Ec{k o s:Nat}:AK.key (.bI k o s)=some k:=rfl
theorem IY{k:Nat}{z:List PV}:AK.key (.alloc k z)=some k:=rfl
theorem OA{k s:Nat}:AK.key (.box k s)=some k:=rfl
theorem IZ{s:Nat}{a:Bool}:AK.key (.eK s a)=none:=rfl
theorem Ed{s:Nat}:AK.key (.eR s)=none:=rfl
theorem Lz{s:Nat}:AK.key (.re s)=none:=rfl
theorem Ee{s:List PV}:AK.key (.iH s)=none:=rfl
theorem I0{s b:Nat}{a:Bool}{z:List PV}:AK.key (.jb s b a z)=none:=rfl
theorem A4{s b:Nat}{ag:Bool}:AK.key (.dQ s b ag)=none:=rfl
theorem Ef{s b:Nat}:AK.key (.append s b)=none:=rfl
theorem I2{g:Nat}:AK.key (.aJ g)=none:=rfl
theorem Eg{g:Nat}:AK.key (.d0 g)=none:=rfl
theorem I6{g:Nat}:AK.key (.je g)=none:=rfl
theorem I7{g:Nat}{o:List Nat}:AK.key (.bp g o)=none:=rfl
theorem I8:AK.oH.key=none:=rfl
theorem I9{c:CK}{ok:Bool}{z:PV}:(AK.kz c ok z).key=none:=rfl
theorem LA{c:CK}:(AK.sv c).key=none:=rfl
theorem I_{sz bytes:Nat}:(AK.clone sz bytes).key=none:=rfl
theorem Ja:AK.key .ir=none:=rfl
theorem bind_none{f:Nat→Option (List AV)}:(none:Option Nat).bind f=none:=rfl
theorem bind_some{f:Nat→Option (List AV)}{n:Nat}:(some n).bind f=f n:=rfl
theorem Eh{sz off:Nat}{cs:List AV}:bO true sz cs off=if off+sz≤cs.length then some (.agg ((cs.drop off).take sz)) else none:=rfl
theorem A5{off:Nat}{cs:List AV}:bO false 1 cs off=if off+1≤cs.length then cs[off]? else none:=rfl
theorem A6{sz:Nat}{cs:List PV}:cJ true sz cs=if sz≤cs.length then some (.pv (.agg (cs.take sz))) else none:=rfl
theorem x5{c:PV}{cs:List PV}:cJ false 1 (c::cs)=some (.pv c):=by simp[cJ]
theorem aE{cs vs:List AV}{off:Nat}:aR cs off vs=cs.take off++vs++cs.drop (off+vs.length):=rfl
theorem So{x:AV}:bA .mv [x]=some x:=rfl
theorem LB{c:Bool}{a b:AV}:bA .pick [.pv (.bool c),a,b]=if c=true then some a else some b:=by cases c<;>rfl
theorem OB{i:Nat}{vs:List AV}:bA (.ext i) [.pJ vs]=vs[i]?:=rfl
theorem Ei{off sz:Nat}{ag:Bool}{cs:List PV}:bA (.field off sz ag) [.pv (.agg cs)]=cJ ag sz (cs.drop off):=rfl
theorem Ej{off d o:Nat}:bA (.gV off) [.au d o]=some (.au d (o+off)):=rfl
theorem Ek{off d o:Nat}:bA (.gV off) [.aM d o]=some (.aM d (o+off)):=rfl
theorem Em{off:Nat}{cs:List PV}:bA (.gV off) [.dM cs]=some (.dM (cs.drop off)):=rfl
def x6(sz:Nat):Option PV→Option AV
 |some el=>if (aZ el).length=sz then some (.dM (aZ el)) else none
 |none=>none
theorem A7{sz:Nat}{el:PV}:x6 sz (some el)=if (aZ el).length=sz then some (.dM (aZ el)) else none:=rfl
theorem Jb{sz:Nat}{l:List PV}{k:IntKind}{i:Int}:bA (.fU sz) [.pv (.aw l),.pv (.int k i)]=if i<0 then none else x6 sz l[i.toNat]?:=by
 show (if i<0 then none else _)=_;split
 ·rfl
 ·show (match l[i.toNat]? with|some el=>_|none=>_)=_;cases l[i.toNat]?<;>rfl
theorem Eo{sz:Nat}{l:List PV}{k:IntKind}{i:Int}:bA (.fU sz) [.cY l,.pv (.int k i)]=if i<0 then none else x6 sz l[i.toNat]?:=by
 show (if i<0 then none else _)=_;split
 ·rfl
 ·show (match l[i.toNat]? with|some el=>_|none=>_)=_;cases l[i.toNat]?<;>rfl
theorem Ep{sz τ:Nat}{l:List PV}{k:IntKind}{i:Int}:bA (.fU sz) [.own l τ,.pv (.int k i)]=if i<0 then none else x6 sz l[i.toNat]?:=by
 show (if i<0 then none else _)=_;split
 ·rfl
 ·show (match l[i.toNat]? with|some el=>_|none=>_)=_;cases l[i.toNat]?<;>rfl
theorem Er{sz b sz' n:Nat}{ag:Bool}{k:IntKind}{i:Int}:bA (.fU sz) [.aT b sz' n ag,.pv (.int k i)]=if i<0 then none else if sz=sz'∧i.toNat<n then some (.aM b (i.toNat*sz)) else none:=rfl
def Ui:Option UInt8→Option AV
 |some b=>some (.pv (.int .u8 b.toNat))
 |none=>none
theorem Es{b:UInt8}:Ui (some b)=some (.pv (.int .u8 b.toNat)):=rfl
def Uj:Option (List AV)→Option AV
 |some cs=>some (.agg cs)
 |none=>none
theorem Jc{cs:List AV}:Uj (some cs)=some (.agg cs):=rfl
theorem Jd{zero:List PV}{places:List (Nat×Nat)}:bA (.build zero places) vals=Uj (lT (zero.map bA.zeroCell) places vals):=by
 show (lT _ _ _).map _=_;cases lT (zero.map bA.zeroCell) places vals<;>rfl
theorem Je{cs:List AV}:lT cs [] []=some cs:=rfl
theorem Et{cs:List AV}{off sz:Nat}{ps:List (Nat×Nat)}{v:AV}{vs:List AV}:lT cs ((off,sz)::ps) (v::vs) =
   if (aX v).length=sz∧off+sz≤cs.length∧(aX v).all a0=true then lT (aR cs off (aX v)) ps vs else none:=rfl
def Uk(sz:Nat):Option (List PV)→Option AV
 |some els=>if els.all (fun e=>(aZ e).length == sz) then some (.cY els) else none
 |none=>none
theorem Jf{sz:Nat}{els:List PV}:Uk sz (some els)=if els.all (fun e=>(aZ e).length == sz) then some (.cY els) else none:=rfl
theorem Eu{sz:Nat}:bA (.dZ sz) vals=Uk sz (cU [] vals):=by
 show (cU [] vals).bind _=_;cases cU [] vals<;>rfl
theorem Jg{sz:Nat}{ag:Bool}{cs:List PV}:bA (.fW sz ag) [.dM cs]=cJ ag sz cs:=rfl
theorem OC{l:List PV}:bA .len [.pv (.aw l)]=some (.pv (.int .i64 l.length)):=rfl
theorem LC{l:List PV}:bA .len [.cY l]=some (.pv (.int .i64 l.length)):=rfl
theorem LD{l:List PV}{τ:Nat}:bA .len [.own l τ]=some (.pv (.int .i64 l.length)):=rfl
theorem LF{a b n:Nat}{d:Bool}:bA .len [.aT a b n d]=some (.pv (.int .i64 n)):=rfl
theorem LG{s:List UInt8}:bA .Ca [.pv (.str s)]=some (.pv (.int .i64 s.length)):=rfl
theorem LH{a b:Nat}:bA .pK [.aM a b]=some (.aM a b):=rfl
theorem Sp{k k':IntKind}{x y:Int}:bA .mn [.pv (.int k x),.pv (.int k' y)]=if k=k' then some (.pv (.int k (if y<x then y else x))) else none:=rfl
theorem Sq{k k':IntKind}{x y:Int}:bA .mx [.pv (.int k x),.pv (.int k' y)]=if k=k' then some (.pv (.int k (if y > x then y else x))) else none:=rfl
theorem LI{g:Nat}:bA (.Kb g) vals=some (.fn g vals):=by cases vals<;>rfl
theorem LJ{k k':IntKind}{n:Int}:bA (.conv k) [.pv (.int k' n)]=some (.pv (.int k (k.wrap n))):=rfl
theorem OD{b:Bool}:bA (.un .not) [.pv (.bool b)]=some (.pv (.bool !b)):=rfl
theorem OE{k:IntKind}{n:Int}:bA (.un .neg) [.pv (.int k n)]=some (.pv (.int k (k.wrap (0-n)))):=rfl
theorem OF{a b:Bool}:bA (.beq false) [.pv (.bool a),.pv (.bool b)]=some (.pv (.bool (a == b))):=rfl
theorem OG{a b:Bool}:bA (.beq true) [.pv (.bool a),.pv (.bool b)]=some (.pv (.bool !(a == b))):=rfl
theorem OH{k:IntKind}{a b:Int}:bA (.bin .add) [.pv (.int k a),.pv (.int k b)]=some (.pv (.int k (k.wrap (a+b)))):=by simp[bA,dj]
theorem OI{k:IntKind}{a b:Int}:bA (.bin .sub) [.pv (.int k a),.pv (.int k b)]=some (.pv (.int k (k.wrap (a-b)))):=by simp[bA,dj]
theorem OJ{k:IntKind}{a b:Int}:bA (.bin .rem) [.pv (.int k a),.pv (.int k b)]=if b=0 then none else some (.pv (.int k (a.tmod b))):=by simp[bA,dj]
theorem OK{k:IntKind}{a b:Int}:bA (.bin .eql) [.pv (.int k a),.pv (.int k b)]=some (.pv (.bool (a == b))):=by simp[bA,dj]
theorem OL{k:IntKind}{a b:Int}:bA (.bin .neq) [.pv (.int k a),.pv (.int k b)]=some (.pv (.bool (a != b))):=by simp[bA,dj]
theorem OM{k:IntKind}{a b:Int}:bA (.bin .lss) [.pv (.int k a),.pv (.int k b)]=some (.pv (.bool (decide (a<b)))):=by simp[bA,dj]
theorem ON{k:IntKind}{a b:Int}:bA (.bin .leq) [.pv (.int k a),.pv (.int k b)]=some (.pv (.bool (decide (a≤b)))):=by simp[bA,dj]
theorem OO{k:IntKind}{a b:Int}:bA (.bin .gtr) [.pv (.int k a),.pv (.int k b)]=some (.pv (.bool (decide (a > b)))):=by simp[bA,dj]
theorem OP{k:IntKind}{a b:Int}:bA (.bin .geq) [.pv (.int k a),.pv (.int k b)]=some (.pv (.bool (decide (a≥b)))):=by simp[bA,dj]
theorem OQ{k:IntKind}{a b:Int}:bA (.bin .and) [.pv (.int k a),.pv (.int k b)]=some (.pv (.int k (k.wrap (BitVec.ofInt k.bits a &&& BitVec.ofInt k.bits b).toNat))):=by simp[bA,dj]
theorem OR{k k':IntKind}{a b:Int}:bA (.bin .shr) [.pv (.int k a),.pv (.int k' b)]=if b<0 then none else some (.pv (.int k (a.fdiv (2 ^ (min b.toNat k.bits))))):=by simp[bA,dj]
theorem OS{a b:List UInt8}:bA (.bin .add) [.pv (.str a),.pv (.str b)]=if a.length+b.length≤9223372036854775807 then some (.pv (.str (a++b))) else none:=rfl
theorem LK{a b:List UInt8}:bA (.bin .eql) [.pv (.str a),.pv (.str b)]=some (.pv (.bool (a == b))):=rfl
theorem LL{a b:List UInt8}:bA (.bin .neq) [.pv (.str a),.pv (.str b)]=some (.pv (.bool (!(a == b)))):=rfl
theorem LM{a b:List UInt8}:bA (.bin .lss) [.pv (.str a),.pv (.str b)]=some (.pv (.bool (dj.gB a b))):=rfl
theorem LN{a b:List UInt8}:bA (.bin .gtr) [.pv (.str a),.pv (.str b)]=some (.pv (.bool (!(dj.gB a b || a == b)))):=rfl
theorem Jh{sz:Nat}{lo hi mx:Bool}{x:AV}{rest:List AV}:bA (.slice false sz lo hi mx) (x::rest)=dT false sz lo hi mx (x::rest):=rfl
theorem Ew{sz:Nat}{lo hi mx:Bool}{x:AV}{rest:List AV}:bA (.slice true sz lo hi mx) (x::rest)=dT true sz lo hi mx (x::rest):=rfl
def om(aV ks:Bool)(sh0 sh:Sh)(aa:aG):Option (List AV)→Option (List AV×Sh×aG)
 |some vs=>if (cA aV ks sh vs).all bE=true then
     some ((cZ aa (cA aV ks sh vs) (if (cA aV ks sh vs).all (aI sh0.length)=true then (eL aV ks sh vs).take sh0.length else eL aV ks sh vs)).1,
       (cZ aa (cA aV ks sh vs) (if (cA aV ks sh vs).all (aI sh0.length)=true then (eL aV ks sh vs).take sh0.length else eL aV ks sh vs)).2.1,
       (cZ aa (cA aV ks sh vs) (if (cA aV ks sh vs).all (aI sh0.length)=true then (eL aV ks sh vs).take sh0.length else eL aV ks sh vs)).2.2.2) else none
 |none=>none
theorem A8{aV ks:Bool}{sh0:Sh}{vs:List AV}:om aV ks sh0 sh aa (some vs)=if (cA aV ks sh vs).all bE=true then
     some ((cZ aa (cA aV ks sh vs) (if (cA aV ks sh vs).all (aI sh0.length)=true then (eL aV ks sh vs).take sh0.length else eL aV ks sh vs)).1,
       (cZ aa (cA aV ks sh vs) (if (cA aV ks sh vs).all (aI sh0.length)=true then (eL aV ks sh vs).take sh0.length else eL aV ks sh vs)).2.1,
       (cZ aa (cA aV ks sh vs) (if (cA aV ks sh vs).all (aI sh0.length)=true then (eL aV ks sh vs).take sh0.length else eL aV ks sh vs)).2.2.2) else none:=rfl
def fin(aV ks:Bool)(rs:List pL)(sh0:Sh):Option (aU×St)→Option (List AV×Sh×aG)
 |some (.ret,st)=>om aV ks sh0 st.sh st.aa (d9 st rs)
 |some (.normal,st)=>om aV ks sh0 st.sh st.aa (d9 st rs)
 |_=>none
theorem OT{aV ks:Bool}{rs:List pL}{sh0:Sh}{st:St}:fin aV ks rs sh0 (some (.ret,st))=om aV ks sh0 st.sh st.aa (d9 st rs):=rfl
theorem Ey{aV ks:Bool}{rs:List pL}{sh0:Sh}{st:St}:fin aV ks rs sh0 (some (.normal,st))=om aV ks sh0 st.sh st.aa (d9 st rs):=rfl
theorem OU{aV ks:Bool}{rs:List pL}{sh0:Sh}{c:Prop}[Decidable c]{x y:Option (aU×St)}:fin aV ks rs sh0 (if c then x else y)=if c then fin aV ks rs sh0 x else fin aV ks rs sh0 y:=by split<;>rfl
theorem wc{aV:Bool}{af:aC}{sh0:Sh}{r:Option (aU×St)}:finish aV af sh0 r=fin aV af.ks af.results sh0 r:=by
 cases r with
 |none=>rfl
 |some q=>
   obtain⟨e,st⟩:=q;cases e with
   |ret=>simp only[finish,fin];cases d9 st af.results<;>simp[om]
   |normal=>simp only[finish,fin];cases d9 st af.results<;>simp[om]
   |exit id=>simp[finish,fin]
theorem Ez{st:St}:d9 st []=some []:=rfl
theorem A9{st:St}{r:pL}{rs:List pL}:d9 st (r::rs)=pb (qk st r) (d9 st rs):=by
 simp only[d9];cases qk st r<;>cases d9 st rs<;>rfl
theorem OV{st:St}{n:Nat}:qk st (.t n)=look st.env n:=rfl
def ng(key sz:Nat)(ag:Bool)(mem:List (Nat×List AV))(sh:Sh):Option AV→Option AV
 |some (.au d 0)=>x7 key d sz ag (look mem key)
 |some (.aM s 0)=>tu ag sz 0 sh[s]?
 |_=>none
where x7 (key d sz:Nat) (ag:Bool):Option (List AV)→Option AV
 |some cs=>if d=key then bO ag sz cs 0 else none
 |none=>none
theorem OW{st:St}{key sz:Nat}{ag:Bool}:qk st (.c key sz ag)=ng key sz ag st.mem st.sh (look st.env key):=by
 simp only[qk];unfold ng;split
 ·rename_i h;rw[h];rfl
 ·rename_i h;rw[h];rfl
 · rename_i h1 h2;split
   ·rename_i d e;exact absurd e (h1 d)
   ·rename_i s e;exact absurd e (h2 s)
   ·rfl
theorem x8{key sz d:Nat}{ag:Bool}{mem:List (Nat×List AV)}:ng key sz ag mem sh (some (.au d 0))=ng.x7 key d sz ag (look mem key):=rfl
theorem x9{key sz d:Nat}{ag:Bool}{cs:List AV}:ng.x7 key d sz ag (some cs)=if d=key then bO ag sz cs 0 else none:=rfl
theorem A_{key sz s:Nat}{ag:Bool}{mem:List (Nat×List AV)}:ng key sz ag mem sh (some (.aM s 0))=tu ag sz 0 sh[s]?:=rfl
theorem x_{vs:List AV}{ks:Bool}:cA false ks sh vs=vs.map (sI sh):=rfl
theorem Ba{vs:List AV}:cA true false sh vs=vs.map (sJ sh):=rfl
theorem Ji{vs:List AV}:cA true true sh vs=vs:=rfl
theorem Bb{vs:List AV}{ks:Bool}:eL false ks sh vs=c_ sh vs:=rfl
theorem EA{vs:List AV}:eL true false sh vs=c_ sh vs:=rfl
theorem LO{vs:List AV}:eL true true sh vs=sh:=rfl
def Sr(v:AV):Option PV→AV
 |some p=>.pv p
 |none=>v
theorem Jj{v:AV}{p:PV}:Sr v (some p)=.pv p:=rfl
theorem LP{v:AV}:sI sh v=Sr v (bR sh v):=rfl
theorem LQ{l:List PV}:sJ sh (.cY l)=.cY l:=rfl
theorem LR{l:List PV}{τ:Nat}:sJ sh (.own l τ)=.own l τ:=rfl
theorem LS{cs:List AV}:sJ sh (.agg cs)=.agg (cs.map (ru sh)):=rfl
theorem OX{p:PV}:sJ sh (.pv p)=.pv p:=rfl
theorem Jk{a b:Nat}:sJ sh (.aM a b)=.aM a b:=rfl
theorem OY{a:Nat}{b:List AV}:sJ sh (.fn a b)=.fn a b:=rfl
theorem Jl:sJ sh .fw=.fw:=rfl
theorem LU{l:List PV}:ru sh (.cY l)=.cY l:=rfl
theorem LV{l:List PV}{τ:Nat}:ru sh (.own l τ)=.pv (.aw l):=rfl
theorem Jm{b:Bool}:ru sh (.pv (.bool b))=.pv (.bool b):=rfl
theorem LW{k:IntKind}{n:Int}:ru sh (.pv (.int k n))=.pv (.int k n):=rfl
theorem LX{s:List UInt8}:ru sh (.pv (.str s))=.pv (.str s):=rfl
theorem LY{l:List PV}:ru sh (.pv (.aw l))=.pv (.aw l):=rfl
theorem Jn{a b c:Nat}{d:Bool}:ru sh (.aT a b c d)=Sr (.aT a b c d) (bR sh (.aT a b c d)):=rfl
theorem EB{vs:List AV}:c_ sh vs=kill sh (vs.flatMap ei):=rfl
theorem LZ:kill sh []=sh:=rfl
theorem Jo{b:Nat}{l:List Nat}:kill sh (b::l)=kill (sh.set b none) l:=rfl
theorem Jp{a b c:Nat}{d:Bool}:ei (.aT a b c d)=[a]:=rfl
theorem OZ{p:PV}:ei (.pv p)=[]:=rfl
theorem L5{l:List PV}{τ:Nat}:ei (.own l τ)=[]:=rfl
theorem L6{l:List PV}:ei (.cY l)=[]:=rfl
theorem Jq{a b:Nat}:ei (.aM a b)=[]:=rfl
theorem O0{a:Nat}{b:List AV}:ei (.fn a b)=[]:=rfl
theorem Jr:ei .fw=[]:=rfl
def tF:AV→List Nat
 | .aT b _ _ _=>[b]
 |_=>[]
theorem L7{cs:List AV}:ei (.agg cs)=cs.flatMap tF:=by
 show cs.flatMap _=cs.flatMap tF;congr 1
theorem EC{a b c:Nat}{d:Bool}:tF (.aT a b c d)=[a]:=rfl
theorem L8{p:PV}:tF (.pv p)=[]:=rfl
theorem Js{l:List PV}{τ:Nat}:tF (.own l τ)=[]:=rfl
theorem Jt{l:List PV}:tF (.cY l)=[]:=rfl
theorem ED:fJ []=some []:=rfl
theorem Bc{p:PV}{r:List AV}:fJ (.pv p::r)=pb (some p) (fJ r):=by
 simp only[fJ];cases fJ r<;>rfl
def ni:Option (List AV×Sh×aG)→Option (List PV)
 |some (rs,_,_)=>fJ rs
 |none=>none
theorem ya{rs:List AV}{t:aG}:ni (some (rs,sh,t))=fJ rs:=rfl
theorem Be{c:Prop}[Decidable c]{x y:Option (List AV×Sh×aG)}:ni (if c then x else y)=if c then ni x else ni y:=by split<;>rfl
theorem ah{g:Nat}{af:aC}{x:List PV}(hg:AP g=some af)(h1:x.length=af.nparams)(h2:af.nparams≤af.ntmps)(hp:af.rf=none:=by rfl) :
   (aF AP).p g x=ni (fin false af.ks af.results [] (cl AP af.body ⟨ca 0 (x.map .pv),[],[],[]⟩)):=by
 rw[Qa hg hp h1 (by omega)];unfold nN ni;rw[wc];cases fin false af.ks af.results [] (cl AP af.body ⟨ca 0 (x.map .pv),[],[],[]⟩)<;>rfl
theorem aB{g:Nat}{af:aC}{x:List AV}{ts:aG}(hg:AP g=some af)(h2:x.length≤af.ntmps) :
   (aF AP).i g x sh ts=fin true af.ks af.results sh (cl AP af.body ⟨ca 0 x,[],sh,ts⟩):=by
 rw[Qb hg h2,←wc];rfl
end
attribute [simp] Hz HA HB KK HC HD KL HE HF HG HH Ah HI Ai CH js Hq CF Oj Hr KF Hs KH Hu Ht Hv Hw Ol Hx KI Hy CG Ag KJ RY RZ G_ z9 Ha z_ Cy xH Hb Cz Hc xI He CA Hf Hg CB xJ Aa CC Kz Oh T9 Oi KA KB Hm Hn Ad CD CE Hp R7 h_ iy jr mu Ae qL Af lC iz jU m6 KE m5 jV lg HP KO jW vf HQ HR K3 H7 H8 CU Av H9 oi CV Aw H_ K5 K6 CW CX C2 Ay La Ic Ie C3 Lb C4 Ig Az C7 C8 AA Oq Ot Lc pX C_ AB Ih Da Ou Sn Ov Ow Ii Ox Db AD AE Ld xQ Le Ij Lf Lg Lh Li Lj Lk Ik tz v9 tD oj Il Dc Im Dd Io Ip AF Iq Di Dj Dk Lm Dl Oz AI Dq Dr rD pY Du Dw rE pZ Dx Is Lp Iu Dz DA Lr DB look_nil Iw Ls Iy Iz IA IB eD DD xS vg DE AL AM DF DG DH DI DJ AN DK AO DL DM DN DO IC ID IE IF IG DP Lt DQ II DR IJ Lu IK DS DT DU Lv IL IP DY Ly IQ IS DZ D2 IT D3 D4 AR AS AT IU D5 AU xT D6 v_ D7 AX IW AY AZ D9 qN qO vi xX xY xZ A1 Ea x4 A3 Eb tE Uh IX Ec IY OA IZ Ed Lz Ee I0 Ef I2 Eg I7 Ja CY K7 Ax K8 H' K9 Ia b2sO_some bind_none bind_some Eh A5 A6 x5 aE So LB OB Ei Ej Ek Em A7 Jb Eo Ep Er Es Jc Jd Je Et Jf Eu Jg OC LC LD LF LG LH Sp Sq LI LJ OD OE OF OG OH OI OJ OK OL OM ON OO OP OQ OR OS LK LL LM LN Jh Ew A8 OT Ey OU Ez A9 OV OW x8 x9 A_ x_ Ba Jj LP LQ LR LS OX Jk OY Jl LU LV Jm LW LX LY Jn EB LZ Jo Jp OZ L5 L6 Jq O0 Jr L7 EC L8 Js Jt ED Bc ya Be C5 Dm Dp DC DV A0 Om KM HJ lh jt m7 nV HK xN vd tv HL v5 I8 I9 LA I_ HM HN Ib qM CZ AG xR Df AH Ir Ll Dg Dy AJ Lq Iv DW AQ IM Lx IN DX xW vh D8 IV AW Ji Bb EA LO I6 HS CI lp Aj KQ KR HT On K0 HX HY HZ H0 HV CL HW KZ HU CM CN RX A4 H3 Ao CS Ap CO lj CP H4 CQ H5 iY K2 H6 CR Au CT R6 Od Oe R4 Kx List.getElem?_cons_zero
theorem aq{n:Int}(h1:-9223372036854775808≤n)(h2:n≤9223372036854775807):IntKind.i64.wrap n=n:=by
 simp[IntKind.wrap,IntKind.bits,IntKind.signed];omega
end Go.Ab.Ev
namespace Go.Ab
open Ev
structure yc(P:Program)(ns:Names)(f sz:Nat)(ag:Bool) where
 fn:Func
 A:kD
 o0:Array Oper
 o1:Array Oper
 o2:Array Oper
 m0:Oper
 Tw:List Oper
 y:Oper
 nt:Oper
 r0:Nat
 r1:Nat
 r2:Nat
 r3:Nat
 b0:Nat
 b1:Nat
 types:Array TypeId
 tb:TypeId
 hf:P.funcs[f]?=some fn
 Bf:fn.body=some (.seq (.region r0 o0 false) (.block b0 (.loop (.seq (.seq (.region r1 o1 false) (.cond (.tmp 8) .skip (.exit b0)))
   (.seq (.block b1 (.seq (.region r3 (m0::Tw++[y,nt]).toArray false) (.cond (.tmp 18) .ret .skip))) (.region r2 o2 false))))))
 gA:fn.results=#[]
 hN:fn.ntmps=19
 c0:cC (eX P ns A 19 o0) o0.toList=some [⟨some 4,none,[.t 1],.v (.fW 1 false)⟩,⟨some 5,none,[.t 4],.v .len⟩,⟨some 6,none,[.t 5,.c (.pv (.int .i64 1))],.v (.bin .sub)⟩,⟨some 3,none,[.t 6],.v .mv⟩]
 c1:cC (eX P ns A 19 o1) o1.toList=some [⟨some 7,none,[.t 3],.v .mv⟩,⟨some 8,none,[.t 7,.c (.pv (.int .i64 0))],.v (.bin .geq)⟩]
 c2:cC (eX P ns A 19 o2) o2.toList=some [⟨some 9,none,[.t 3],.v .mv⟩,⟨some 10,none,[.t 9,.c (.pv (.int .i64 1))],.v (.bin .sub)⟩,⟨some 3,none,[.t 10],.v .mv⟩]
 h0:m0.op=.move (.tmp 0)∧m0.dst=some 11∧m0.guard=none
 c3:cC (eX P ns A 19 (m0::Tw++[y,nt]).toArray) Tw=some [⟨some 12,none,[.t 3],.v .mv⟩,⟨some 13,none,[.t 1],.v (.fW 1 false)⟩,⟨some 14,none,[.t 3],.v .mv⟩,⟨some 15,none,[.t 13,.t 14],.v (.fU sz)⟩,⟨some 16,none,[.t 15],.v (.fW sz ag)⟩]
 hy:y.op=.call { callee:=.value (.tmp 11),args:=#[.tmp 12,.tmp 16],argTypes:=types }∧y.dst=some 17∧y.guard=none
 hn:nt.op=.unOp .not tb (.tmp 17)∧nt.dst=some 18∧nt.guard=none
section
variable {P:Program} {ns:Names}
theorem e8{n0:Nat}{ro:Option Nat}{n:Nat}(hB:gJ P ns){orc:eH}(horc:iA P ns orc){A:kD}{N:Nat}{ops:Array Oper}{Q:Exit→Act→World→Prop}{rest:List Oper}:∀{l:List Oper} {as:List dN} {st st':St} {G:Gh} {a:Act} {w:World},
   cC (eX P ns A N ops) l=some as→fM (num ns) n0 N G st a w→bt orc as st=some st' →
   (∀G' a' w',fM (num ns) n0 N G' st' a' w'→bu G w G' w'→a'.defers=a.defers→(∀t,(∀ao∈as,ao.dst≠some t)→a'.tmps[t]?=a.tmps[t]?)→wpListIn (rC ro) n P ops Q rest a' w')→wpListIn (rC ro) n P ops Q (l++rest) a w
 |[],as,st,st',G,a,w,hc,hs,hev,hq=>by
   simp[cC]at hc;subst hc;simp[bt]at hev;subst hev;exact hq G a w hs (bu.refl G w) rfl (fun _ _=>rfl)
 |o::l,as,st,st',G,a,w,hc,hs,hev,hq=>by
   simp only[cC]at hc;split at hc
   · rename_i ao aos h1 h2;simp at hc;subst hc;simp only[bt]at hev;split at hev
     ·simp at hev
     · rename_i st1 hst1;rw[List.cons_append];unfold wpListIn;have hd:ao.dst=o.dst:=by obtain⟨_,_,_,h,_⟩:=lA h1;exact h
       have hput:∀(a:Act) (v:Value) t,ao.dst≠some t→(a.put o.dst v).tmps[t]?=a.tmps[t]?:=by
         intro a v t ht;rw[hd]at ht;cases ho:o.dst with
         |none=>rfl
         |some d=>
           rw[ho]at ht;simp only[Act.put];rw[Array.getElem?_setIfInBounds_ne];intro e;exact ht (by rw[e])
       exact xG hB horc h1 hs hst1 (fun G' v w' hs' he=>e8 hB horc h2 hs' hev (fun G'' a'' w'' hs'' he' hdf hk=>hq G'' a'' w'' hs'' (he.trans he') (hdf.trans (put_defers _ _ _)) (fun t ht=>by
         rw[hk t (fun ao' h=>ht ao' (by simp[h]))];exact hput a v t (ht ao (by simp)))))
   ·simp at hc
theorem p6{F:Fence}{n:Nat}{ops:Array Oper}{Q:Exit→Act→World→Prop}{rest:List Oper}{o:Oper}{x:Operand}{a:Act}{w:World}(hF:∀f,F.fn f)(ho:o.op=.move x)(hg:o.guard=none)
   (h:wpListIn F n P ops Q rest (a.put o.dst (a.eval x)) w):wpListIn F n P ops Q (o::rest) a w:=by
 unfold wpListIn;have hw:Region.wanted o (yielded ops a.tmps)=true:=by simp[Region.wanted,hg]
 rw[if_pos hw];refine⟨fun _ _=>hF _,?_⟩;rw[Oper.semAt_eq _ _ _ (by intro c e;rw[ho]at e;cases e)]
 have hr:(execOp a.eval o).run P w=.ok (.value (a.eval x)) w:=by
   obtain⟨dst,op,type,pos,after,guard⟩:=o;simp only at ho;subst ho;simp[execOp]
 rw[hr];exact h
theorem EE{F:Fence}{n l:Nat}{ops:Array Oper}{Q:Exit→Act→World→Prop}{rest:List Oper}{o:Oper}{types:Array TypeId}{a:Act}{w:World}{x y:Value}(hF:∀f,F.fn f)(hd:F.depth=none)
   (ho:o.op=.call { callee:=.value (.tmp 11),args:=#[.tmp 12,.tmp 16],argTypes:=types }) (hg:o.guard=none) (h11:a.tmps[11]?=some (.func (.yield l) #[] #[])) (h12:a.tmps[12]?=some x) (h16:a.tmps[16]?=some y)
   (h:YieldAt F (n-1) P l #[x,y] w fun e w'=>∃v,e=.returned v∧wpListIn F n P ops Q rest (a.put o.dst v) w'):wpListIn F n P ops Q (o::rest) a w:=by
 unfold wpListIn;have hw:Region.wanted o (yielded ops a.tmps)=true:=by simp[Region.wanted,hg]
 rw[if_pos hw];refine⟨fun _ _=>hF _,?_⟩;rw[Oper.semAt_eq _ _ _ (by intro c e;rw[ho]at e;cases e)];obtain⟨fn,tmps,assign,body,hy,hR⟩:=h;have e11:a.eval (.tmp 11)=.func (.yield l) #[] #[]:=by simp[Act.eval,h11]
 have e12:a.eval (.tmp 12)=x:=by simp[Act.eval,h12]
 have e16:a.eval (.tmp 16)=y:=by simp[Act.eval,h16]
 have hr:(execOp a.eval o).run P w=.ok (.round l fn tmps assign body) w:=by
   obtain⟨dst,op,type,pos,after,guard⟩:=o;simp only at ho;subst ho;simp only[execOp,resolve,Sem.run_bind,e11,Deferred.ofValue,Sem.run_pure,Result.andThen_ok,invoke,callFunc];simp[e12,e16,hy]
 rw[hr];refine⟨fun e=>by rw[hd]at e;simp at e,hR.mono ?_⟩
 rintro e w' ⟨v,rfl,h⟩
 exact h
theorem Bg{F:Fence}{n:Nat}{ops:Array Oper}{Q:Exit→Act→World→Prop}{rest:List Oper}{o:Oper}{t:TypeId}{b:Bool}{a:Act}{w:World}(hF:∀f,F.fn f)(ho:o.op=.unOp .not t (.tmp 17))(hg:o.guard=none)
   (h17:a.tmps[17]?=some (.bool b)) (h:wpListIn F n P ops Q rest (a.put o.dst (.bool !b)) w):wpListIn F n P ops Q (o::rest) a w:=by
 unfold wpListIn;have hw:Region.wanted o (yielded ops a.tmps)=true:=by simp[Region.wanted,hg]
 rw[if_pos hw];refine⟨fun _ _=>hF _,?_⟩;rw[Oper.semAt_eq _ _ _ (by intro c e;rw[ho]at e;cases e)];have e17:a.eval (.tmp 17)=.bool b:=by simp[Act.eval,h17]
 have hr:(execOp a.eval o).run P w=.ok (.value (.bool !b)) w:=by
   obtain⟨dst,op,type,pos,after,guard⟩:=o;simp only at ho;subst ho;simp[execOp,h17,go_sem,Op.unary]
 rw[hr];exact h
structure qP(L:List PV)(bx l:Nat)(k:Nat)(a:Act):Prop where
 size:a.tmps.size=19
 defers:a.defers=[]
 t0:a.tmps[0]?=some (.func (.yield l) #[] #[])
 t1:a.tmps[1]?=some (.pointer (some ⟨bx,0,none⟩))
 t3:a.tmps[3]?=some (.int .i64 ((L.length:Int)-1-k))
theorem qP.V3{L:List PV}{bx l k:Nat}{a:Act}{st:St}{G:Gh}{W:World}(h:qP L bx l k a)(hi:Inv (num ns) G W st.mem st.sh st.aa)(hb:aA (num ns) G (.dM [.aw L]) (.pointer (some ⟨bx,0,none⟩))) :
   fM (num ns) 0 19 G { env:=[(1,.dM [.aw L]),(3,.pv (.int .i64 ((L.length:Int)-1-k)))],mem:=st.mem,sh:=st.sh,aa:=st.aa } a W:=by
 refine⟨⟨h.size,fun t x hx=>?_⟩,hi,Nat.zero_le _,[],by simpa using h.defers,by simp,by simp⟩;simp only[look]at hx;split at hx
 ·rename_i e;subst e;cases hx;exact⟨_,h.t1,hb⟩
 · split at hx
   ·rename_i e;subst e;cases hx;exact⟨_,h.t3,by simp[aA,Rel,R]⟩
   ·cases hx
section
variable {orc:eH} {mem:List (Nat×List AV)} {sh:Sh} {aa:aG} {L:List PV}
theorem Xi(hL:L.length<4611686018427387904):bt orc [⟨some 4,none,[.t 1],.v (.fW 1 false)⟩,⟨some 5,none,[.t 4],.v .len⟩,⟨some 6,none,[.t 5,.c (.pv (.int .i64 1))],.v (.bin .sub)⟩,⟨some 3,none,[.t 6],.v .mv⟩]
   { env:=[(1,.dM [.aw L])],mem,sh,aa }=some { env:=[(1,.dM [.aw L]),(4,.pv (.aw L)),(5,.pv (.int .i64 L.length)),(6,.pv (.int .i64 ((L.length:Int)-1))),(3,.pv (.int .i64 ((L.length:Int)-1)))],mem,sh,aa }:=by
 simp (disch:=omega) [aq]
theorem WR{i:Int}:bt orc [⟨some 7,none,[.t 3],.v .mv⟩,⟨some 8,none,[.t 7,.c (.pv (.int .i64 0))],.v (.bin .geq)⟩]
   { env:=[(1,.dM [.aw L]),(3,.pv (.int .i64 i))],mem,sh,aa }=some { env:=[(1,.dM [.aw L]),(3,.pv (.int .i64 i)),(7,.pv (.int .i64 i)),(8,.pv (.bool (decide (0≤i))))],mem,sh,aa }:=by
 simp (disch:=omega) [aq]
theorem Xj{i:Int}(h0:-4611686018427387904<i)(h1:i<4611686018427387904):bt orc [⟨some 9,none,[.t 3],.v .mv⟩,⟨some 10,none,[.t 9,.c (.pv (.int .i64 1))],.v (.bin .sub)⟩,⟨some 3,none,[.t 10],.v .mv⟩]
   { env:=[(1,.dM [.aw L]),(3,.pv (.int .i64 i))],mem,sh,aa }=some { env:=[(1,.dM [.aw L]),(3,.pv (.int .i64 (i-1))),(9,.pv (.int .i64 i)),(10,.pv (.int .i64 (i-1)))],mem,sh,aa }:=by
 simp (disch:=omega) [aq]
theorem Xk{i sz:Nat}{ag:Bool}{el:PV}{x:AV}(hi:L[i]?=some el)(hx:uP sz ag el=some x):∃p,bt orc [⟨some 12,none,[.t 3],.v .mv⟩,⟨some 13,none,[.t 1],.v (.fW 1 false)⟩,⟨some 14,none,[.t 3],.v .mv⟩,⟨some 15,none,[.t 13,.t 14],.v (.fU sz)⟩,⟨some 16,none,[.t 15],.v (.fW sz ag)⟩]
   { env:=[(1,.dM [.aw L]),(3,.pv (.int .i64 i))],mem,sh,aa }=some { env:=[(1,.dM [.aw L]),(3,.pv (.int .i64 i)),(12,.pv (.int .i64 i)),(13,.pv (.aw L)),(14,.pv (.int .i64 i)),(15,p),(16,x)],mem,sh,aa }:=by
 refine⟨.dM (aZ el),?_⟩;have hlt:=(List.getElem?_eq_some_iff.1 hi).1;unfold uP at hx;simp only[Option.ite_none_right_eq_some]at hx;obtain⟨hsz,hx⟩:=hx;have hi0:¬((i:Int)<0):=by omega
 simp (disch:=omega) [-getElem?_pos,hi,hi0,hsz,hx]
end
theorem O1{orc:eH}(hB:gJ P ns)(horc:iA P ns orc){f sz:Nat}{ag:Bool}(D:yc P ns f sz ag){L:List PV}(hL:L.length<4611686018427387904){bx l:Nat}{J:Nat→St→Gh→World→Prop}{Jx:World→Prop}
   (hInv:∀{k st G W},J k st G W→Inv (num ns) G W st.mem st.sh st.aa)
   (hEvo:∀{k st G W G' W'},J k st G W→Inv (num ns) G' W' st.mem st.sh st.aa→bu G W G' W'→J k st G' W')
   (hbox:∀{k st G W},J k st G W→aA (num ns) G (.dM [.aw L]) (.pointer (some ⟨bx,0,none⟩)))
   (hel:∀{k st G W},J k st G W→k<L.length→∃el x,L[L.length-1-k]?=some el∧uP sz ag el=some x)
   (hY:∀{k st G W el x v},J k st G W→k<L.length→L[L.length-1-k]?=some el→uP sz ag el=some x→aA (num ns) G x v →
     YieldAt Fence.wide 0 P l #[.int .i64 ((L.length-1-k:Nat):Int),v] W fun e W'=>(e=.returned (.bool true)∧∃st' G',J (k+1) st' G' W')∨(e=.returned (.bool false)∧Jx W'))
   {st:St} {G:Gh} {W:World} (h0:J 0 st G W) :
   CallsIn Fence.wide 0 P f #[.func (.yield l) #[] #[],.pointer (some ⟨bx,0,none⟩)] W fun e W'=>(∃v,e=.returned v)∧((∃st' G',J L.length st' G' W')∨Jx W'):=by
 have hF:∀f,Fence.wide.fn f:=fun _=>trivial
 have fin:∀(a:Act) (W':World),a.defers=[]→((∃st' G',J L.length st' G' W')∨Jx W')→a.defers=[]∧∃v,(results D.fn a.tmps).run P W'=.ok v W'∧((∃u,Ending.returned v=.returned u)∧((∃st' G',J L.length st' G' W')∨Jx W')):=by
   intro a W' hd h;refine⟨hd,.tuple #[],?_,⟨_,rfl⟩,h⟩;simp[results,D.gA]
 refine callsIn_of_wp D.hf D.Bf trivial ?_ rfl;rw[D.hN];refine wpIn_seq (wpIn_region_list ?_)
 have hs0:fM (num ns) 0 19 G { env:=[(1,.dM [.aw L])],mem:=st.mem,sh:=st.sh,aa:=st.aa } { tmps:=#[.func (.yield l) #[] #[],.pointer (some ⟨bx,0,none⟩)]++Array.replicate (19-(#[.func (.yield l) #[] #[],.pointer (some ⟨bx,0,none⟩)]:Array Value).size) undef,defers:=[] } W:=by
   have i0:=hInv h0;refine⟨⟨by simp,fun t x hx=>?_⟩,i0,Nat.zero_le _,[],rfl,by simp,by simp⟩;simp only[look]at hx;split at hx
   ·rename_i e;subst e;cases hx;exact⟨_,by simp,hbox h0⟩
   ·cases hx
 rw[←List.append_nil D.o0.toList];refine e8 (ro:=none) hB horc D.c0 hs0 (Xi hL) fun G1 a1 W1 hs1 he1 hd1 hk1=>?_
 change (Code.block D.b0 _).wpIn Fence.wide 0 P _ a1 W1
 have J1:J 0 st G1 W1:=hEvo h0 hs1.inv he1
 have hh1:qP L bx l 0 a1:=by
   refine⟨hs1.env.size,hd1,?_,?_,?_⟩
   ·rw[hk1 0 (by simp)];simp
   ·rw[hk1 1 (by simp)];simp
   ·obtain⟨v,h1,h2⟩:=hs1.env.env 3 _ rfl;simp[aA,Rel,R]at h2;rw[h1,h2];simp
 refine wpIn_block (wpIn_loop_rounds (L.length+1) ?_)
 have round:∀(j k:Nat) (a:Act) (st:St) (G:Gh) (W:World),L.length-k=j→k≤L.length→qP L bx l k a→J k st G W →
     Code.roundsIn Fence.wide 0 P (.seq (.seq (.region D.r1 D.o1 false) (.cond (.tmp 8) .skip (.exit D.b0))) (.seq (.block D.b1 (.seq (.region D.r3 (D.m0::D.Tw++[D.y,D.nt]).toArray false) (.cond (.tmp 18) .ret .skip))) (.region D.r2 D.o2 false)))
       (Exit.inBlock D.b0 (bodyPost P D.fn fun e W'=>(∃v,e=.returned v)∧((∃st' G',J L.length st' G' W')∨Jx W'))) (j+1) a W:=by
   intro j;induction j with
   |zero=>
     intro k a st G W hj hk hh hJ;rw[roundsIn_succ];refine wpIn_seq (wpIn_seq (wpIn_region_list ?_));rw[←List.append_nil D.o1.toList];refine e8 (ro:=none) hB horc D.c1 (hh.V3 (hInv hJ) (hbox hJ)) WR fun G1 a1 W1 hs1 he1 hd1 hk1=>?_
     change (Code.cond (.tmp 8) .skip (.exit D.b0)).wpIn Fence.wide 0 P _ a1 W1
     obtain⟨v8,h8,r8⟩:=hs1.env.env 8 _ rfl;have hJ1:=hEvo hJ hs1.inv he1;have aV:qP L bx l k a1:=⟨hs1.env.size,hd1.trans hh.defers,by rw[hk1 0 (by simp)];exact hh.t0,by rw[hk1 1 (by simp)];exact hh.t1,by rw[hk1 3 (by simp)];exact hh.t3⟩;simp[aA,Rel,R]at r8;have hkl:k=L.length:=by omega
     subst hkl;have hc:a1.eval (.tmp 8)=.bool false:=by simp[Act.eval,h8,r8];omega
     refine wpIn_cond_false hc (wpIn_exit ?_);simp only[Exit.then,Exit.inBlock,if_true];exact fin a1 W1 aV.defers (.inl ⟨_,_,hJ1⟩)
   |succ j ih=>
     intro k a st G W hj hk hh hJ;rw[roundsIn_succ];refine wpIn_seq (wpIn_seq (wpIn_region_list ?_));rw[←List.append_nil D.o1.toList];refine e8 (ro:=none) hB horc D.c1 (hh.V3 (hInv hJ) (hbox hJ)) WR fun G1 a1 W1 hs1 he1 hd1 hk1=>?_
     change (Code.cond (.tmp 8) .skip (.exit D.b0)).wpIn Fence.wide 0 P _ a1 W1
     obtain⟨v8,h8,r8⟩:=hs1.env.env 8 _ rfl;have hJ1:=hEvo hJ hs1.inv he1;have aV:qP L bx l k a1:=⟨hs1.env.size,hd1.trans hh.defers,by rw[hk1 0 (by simp)];exact hh.t0,by rw[hk1 1 (by simp)];exact hh.t1,by rw[hk1 3 (by simp)];exact hh.t3⟩;simp[aA,Rel,R]at r8;have hkl:k<L.length:=by omega
     have hc:a1.eval (.tmp 8)=.bool true:=(by simp[Act.eval,h8,r8];omega);refine wpIn_cond_true hc (wpIn_skip ?_)
     change (Code.seq (.block D.b1 _) (.region D.r2 D.o2 false)).wpIn Fence.wide 0 P _ a1 W1
     refine wpIn_seq (wpIn_block (wpIn_seq (wpIn_region_list ?_)));have hl3:((D.m0::D.Tw++[D.y,D.nt]).toArray).toList=D.m0::(D.Tw++[D.y,D.nt]):=by simp
     rw[hl3];refine p6 hF D.h0.1 D.h0.2.2 ?_;have e0:a1.eval (.tmp 0)=.func (.yield l) #[] #[]:=by simp[Act.eval,aV.t0]
     rw[D.h0.2.1,e0]
     have keep2:qP L bx l k (a1.put (some 11) (.func (.yield l) #[] #[])):=by
       refine⟨by simp[Act.put,aV.size],aV.defers,?_,?_,?_⟩
       ·simp only[Act.put];rw[Array.getElem?_setIfInBounds_ne (by decide)];exact aV.t0
       ·simp only[Act.put];rw[Array.getElem?_setIfInBounds_ne (by decide)];exact aV.t1
       ·simp only[Act.put];rw[Array.getElem?_setIfInBounds_ne (by decide)];exact aV.t3
     obtain⟨el,x,hi,hx⟩:=hel hJ1 hkl;have i3:(L.length:Int)-1-k=((L.length-1-k:Nat):Int):=by omega
     obtain⟨p,hev⟩:=Xk (orc:=orc) (mem:=st.mem) (sh:=st.sh) (aa:=st.aa) hi hx;have hs2:=keep2.V3 (hInv hJ1) (hbox hJ1);rw[i3]at hs2;refine e8 (ro:=none) hB horc D.c3 hs2 hev fun G3 a3 W3 hs3 he3 hd3 hk3=>?_
     have hJ3:=hEvo hJ1 hs3.inv he3;obtain⟨v12,h12,r12⟩:=hs3.env.env 12 _ rfl;obtain⟨v16,h16,r16⟩:=hs3.env.env 16 _ rfl;simp[aA,Rel,R]at r12;subst r12;have h11:a3.tmps[11]?=some (.func (.yield l) #[] #[]):=(by rw[hk3 11 (by simp)];simp[Act.put,aV.size]);have h3:a3.tmps[3]?=some (.int .i64 ((L.length:Int)-1-k)):=(by rw[hk3 3 (by simp)];exact keep2.t3);have h0':a3.tmps[0]?=some (.func (.yield l) #[] #[]):=(by rw[hk3 0 (by simp)];exact keep2.t0);have h1':a3.tmps[1]?=some (.pointer (some ⟨bx,0,none⟩)):=(by rw[hk3 1 (by simp)];exact keep2.t1);have hsz3:=hs3.env.size;refine EE hF rfl D.hy.1 D.hy.2.2 h11 h12 h16 ?_;obtain⟨fn,tmps,assign,body,hy1,hR⟩:=hY hJ3 hkl hi hx r16;refine⟨fn,tmps,assign,body,hy1,hR.mono ?_⟩;have put17:∀v,(a3.put D.y.dst v).tmps[17]?=some v:=by intro v;rw[D.hy.2.1];simp[Act.put,hsz3]
     have both:∀b u,qP L bx l k ((a3.put D.y.dst u).put D.nt.dst (.bool b))∧((a3.put D.y.dst u).put D.nt.dst (.bool b)).tmps[18]?=some (.bool b):=by
       intro b u;rw[D.hy.2.1,D.hn.2.1];refine⟨⟨by simp[Act.put,hsz3],hd3.trans keep2.defers,?_,?_,?_⟩,by simp[Act.put,hsz3]⟩
       ·simp only[Act.put];rw[Array.getElem?_setIfInBounds_ne (by decide),Array.getElem?_setIfInBounds_ne (by decide)];exact h0'
       ·simp only[Act.put];rw[Array.getElem?_setIfInBounds_ne (by decide),Array.getElem?_setIfInBounds_ne (by decide)];exact h1'
       ·simp only[Act.put];rw[Array.getElem?_setIfInBounds_ne (by decide),Array.getElem?_setIfInBounds_ne (by decide)];exact h3
     rintro e W' (⟨rfl,st',G',hJ'⟩|⟨rfl,hx'⟩)
     · refine⟨_,rfl,Bg hF D.hn.1 D.hn.2.2 (put17 _) ?_⟩;obtain⟨hh4,h18⟩:=both false (.bool true)
       change (Code.cond (.tmp 18) .ret .skip).wpIn Fence.wide 0 P _ ((a3.put D.y.dst (.bool true)).put D.nt.dst (.bool false)) W'
       refine wpIn_cond_false (by simp[Act.eval,h18]) (wpIn_skip ?_)
       change (Code.region D.r2 D.o2 false).wpIn Fence.wide 0 P _ _ W'
       refine wpIn_region_list ?_;rw[←List.append_nil D.o2.toList];refine e8 (ro:=none) hB horc D.c2 (hh4.V3 (hInv hJ') (hbox hJ')) (Xj (by omega) (by omega)) fun G5 a5 W5 hs5 he5 hd5 hk5=>?_;have hJ5:=hEvo hJ' hs5.inv he5
       obtain⟨v3,g3,s3⟩:=hs5.env.env 3 _ rfl;simp[aA,Rel,R]at s3;refine ih (k+1) a5 st' G5 W5 (by omega) (by omega) ⟨hs5.env.size,hd5.trans hh4.defers,by rw[hk5 0 (by simp)];exact hh4.t0,by rw[hk5 1 (by simp)];exact hh4.t1,?_⟩ hJ5;rw[g3,s3];congr 2;omega
     · refine⟨_,rfl,Bg hF D.hn.1 D.hn.2.2 (put17 _) ?_⟩;obtain⟨hh4,h18⟩:=both true (.bool false)
       change (Code.cond (.tmp 18) .ret .skip).wpIn Fence.wide 0 P _ ((a3.put D.y.dst (.bool false)).put D.nt.dst (.bool true)) W'
       refine wpIn_cond_true (by simp[Act.eval,h18]) (wpIn_ret ?_);exact fin _ W' hh4.defers (.inr hx')
 exact round L.length 0 a1 st G1 W1 (by omega) (by omega) hh1 J1
theorem Inv.lD{G:Gh}{w:World}{mem:List (Nat×List AV)}{sh:Sh}{aa:aG}{l:Nat}{r:Loop}(hi:Inv (num ns) G w mem sh aa)(hl:w.heap[l]?=some (.loop r))(o':Obj) :
   Inv (num ns) G (w.putObj l o') mem sh aa:=by
 have hne:∀{b:Nat} {c:Array Value} {t:TypeId},w.heap[b]?=some (.cells c t (0,0))→(w.putObj l o').heap[b]?=some (.cells c t (0,0)):=by
   intro b c t h;rw[World.putObj_heap_other]
   ·exact h
   ·rintro rfl;rw[hl]at h;cases h
 have hsize:(w.putObj l o').heap.size=w.heap.size:=by simp[World.putObj]
 refine { hi with known:=?_,fresh:=?_,cG:=?_,cR:=?_,cT:=?_,l5:=?_ }
 · intro b o v hk;have h:=hi.known b o v hk;rw[←h];have:b≠l:=by rintro rfl;simp[World.cell?,hl]at h
   simp only[World.cell?,World.putObj_heap_other this]
 ·intro b hb;exact hi.fresh b (by omega)
 ·intro k cs hk;obtain⟨b,e1,⟨e2,c,t,e3,e4⟩,e5⟩:=hi.cG k cs hk;exact⟨b,e1,⟨e2,c,t,hne e3,e4⟩,e5⟩
 · intro k cs hk;obtain⟨b,e1,⟨e2,o,e3,e4⟩,e5⟩:=hi.cR k cs hk;refine⟨b,e1,⟨e2,o,?_,e4⟩,e5⟩;rw[World.putObj_heap_other]
   ·exact e3
   · rintro rfl
     rw[hl]at e3;cases e3;rcases e4 with⟨_,_,_,_,h,_⟩|⟨_,_,_,h,_⟩<;>cases h
 ·intro τ n hn;obtain⟨t,e1,e2,e3⟩:=hi.cT τ n hn;refine⟨t,e1,e2,e3.cap,e3.zero,fun hlt=>?_⟩;obtain⟨b,o,c,ty,f1,f2,f3,f4,f5⟩:=e3.spare hlt;exact⟨b,o,c,ty,f1,f2,hne f3,f4,f5⟩
 · intro b c hb;obtain⟨h1,t',z,h2⟩:=hi.l5 b c hb;refine⟨h1,t',z,?_⟩;rw[World.putObj_heap_other]
   ·exact h2
   ·rintro rfl;rw[hl]at h2;cases h2
theorem bu.putObj{G G':Gh}{w w':World}{l:Nat}(he:bu G w G' w')(hl:w.heap.size≤l)(o':Obj):bu G w G' (w'.putObj l o'):=
 { he with
   size:=by simpa[World.putObj] using he.size
   os:=by simpa[World.putObj] using he.os
   tape:=by simpa[World.putObj] using he.tape
   output:=by simpa[World.putObj] using he.output
   dH:=fun b hb hr=>by
     obtain⟨h1,h2⟩:=he.dH b hb hr;exact⟨h1,by rw[World.putObj_heap_other (by omega)];exact h2⟩ }
theorem Inv.tG{G:Gh}{w:World}{mem:List (Nat×List AV)}{sh:Sh}{aa:aG}(hi:Inv (num ns) G w mem sh aa)(o:Obj):Inv (num ns) G (w.alloc o) mem sh aa:=by
 have hne:∀{b:Nat} {x:Obj},w.heap[b]?=some x→(w.alloc o).heap[b]?=some x:=by
   intro b x h;have hlt:=(Array.getElem?_eq_some_iff.1 h).1;rw[RowKit.Below.heap_alloc _ _ _ hlt];exact h
 have hsize:(w.alloc o).heap.size=w.heap.size+1:=World.size_alloc _ _;refine { hi with known:=?_,fresh:=?_,cG:=?_,cR:=?_,cT:=?_,l5:=?_ }
 · intro b o' v hk;have h:=hi.known b o' v hk;rw[←h]
   have hlt:b<w.heap.size:=by
     rcases Nat.lt_or_ge b w.heap.size with h'|h'
     ·exact h'
     ·simp[World.cell?,Array.getElem?_eq_none h']at h
   simp only[World.cell?,RowKit.Below.heap_alloc _ _ _ hlt]
 ·intro b hb;exact hi.fresh b (by omega)
 ·intro k cs hk;obtain⟨b,e1,⟨e2,c,t,e3,e4⟩,e5⟩:=hi.cG k cs hk;exact⟨b,e1,⟨e2,c,t,hne e3,e4⟩,e5⟩
 ·intro k cs hk;obtain⟨b,e1,⟨e2,o',e3,e4⟩,e5⟩:=hi.cR k cs hk;exact⟨b,e1,⟨e2,o',hne e3,e4⟩,e5⟩
 ·intro τ n hn;obtain⟨t,e1,e2,e3⟩:=hi.cT τ n hn;refine⟨t,e1,e2,e3.cap,e3.zero,fun hlt=>?_⟩;obtain⟨b,o,c,ty,f1,f2,f3,f4,f5⟩:=e3.spare hlt;exact⟨b,o,c,ty,f1,f2,hne f3,f4,f5⟩
 ·intro b c hb;obtain⟨h1,t',z,h2⟩:=hi.l5 b c hb;exact⟨h1,t',z,hne h2⟩
theorem bu.tG{G G':Gh}{w w':World}(he:bu G w G' w')(o:Obj):bu G w G' (w'.alloc o):=
 { he with
   size:=by rw[World.size_alloc];exact Nat.le_succ_of_le he.size
   os:=he.os
   tape:=he.tape
   output:=he.output
   dH:=fun b hb hr=>by
     obtain⟨h1,h2⟩:=he.dH b hb hr;exact⟨h1,by rw[RowKit.Below.heap_alloc _ _ _ (Nat.lt_of_lt_of_le hb he.size)];exact h2⟩ }
theorem Bh{L:List PV}{k:Nat}(hk:k<L.length):∃el,L[L.length-1-k]?=some el∧L.zipIdx.reverse.drop k=(el,L.length-1-k)::L.zipIdx.reverse.drop (k+1):=by
 have hlt:L.length-1-k<L.length:=by omega
 refine⟨L[L.length-1-k],List.getElem?_eq_getElem hlt,?_⟩;have hl:k<L.zipIdx.reverse.length:=by simp;exact hk
 rw[List.drop_eq_getElem_cons hl];congr 1;simp
def kH(fn:FuncId)(tmps:Array Value)(ps:Array Tmp)(x y:Code)(D:Nat)(s:LoopState)(pe:Option Code):Loop:={ state:=s,pending:=pe,fn,tmps,params:=ps,assign:=x,body:=y,defers:=D }
def Ss:aU→Code
 | .normal=>.skip
 | .ret=>.ret
 | .exit id=>.exit id
structure BJ(ns:Names)(Gs:Gh)(w:World)(F:St→Option (aU×St))(live:List Nat)(pi px sz:Nat)(ag:Bool)(env0:List (Nat×AV))(L:List PV)(bx:Nat)(l D:Nat)(rec:Loop)(res:aU×St)(k:Nat)(st:St)(G:Gh)(W:World):Prop where
 inv:Inv (num ns) G W st.mem st.sh st.aa
 uQ:bu Gs w G W
 EF:W.heap[l]?=some (.loop rec)
 rl:G.role l=.dH
 Ul:W.heap[D]?=some (.deferred (some []))
 rd:G.role D=.dH
 box:aA (num ns) G (.dM [.aw L]) (.pointer (some ⟨bx,0,none⟩))
 rest:jf F live pi px sz ag env0 (L.zipIdx.reverse.drop k) st=some res
theorem we{G G':Gh}{cs:List PV}{v:Value}(hK:G.K.le G'.K)(h:aA (num ns) G (.dM cs) v):aA (num ns) G' (.dM cs) v:=by
 simp only[aA]at h⊢;obtain⟨b,o,vs,e,f,r⟩:=h;exact⟨b,o,vs,e,f.mono hK,dd.mono hK _ _ r⟩
theorem BJ.go{Gs:Gh}{w:World}{F:St→Option (aU×St)}{live:List Nat}{pi px sz:Nat}{ag:Bool}{env0:List (Nat×AV)}{L:List PV}{bx l D:Nat}{rec:Loop}{res:aU×St}{k:Nat}{st:St}{G G':Gh}{W W':World}
   (h:BJ ns Gs w F live pi px sz ag env0 L bx l D rec res k st G W) (hi:Inv (num ns) G' W' st.mem st.sh st.aa) (he:bu G W G' W'):BJ ns Gs w F live pi px sz ag env0 L bx l D rec res k st G' W':=by
 have hl:=(Array.getElem?_eq_some_iff.1 h.EF).1;have hd:=(Array.getElem?_eq_some_iff.1 h.Ul).1;obtain⟨a1,a2⟩:=he.dH l hl h.rl;obtain⟨b1,b2⟩:=he.dH D hd h.rd;exact⟨hi,h.uQ.trans he,a2.trans h.EF,a1,b2.trans h.Ul,b1,we he.K h.box,h.rest⟩
theorem BJ.el{Gs:Gh}{w:World}{F:St→Option (aU×St)}{live:List Nat}{pi px sz:Nat}{ag:Bool}{env0:List (Nat×AV)}{L:List PV}{bx l D:Nat}{rec:Loop}{res:aU×St}{k:Nat}{st:St}{G:Gh}{W:World}
   (h:BJ ns Gs w F live pi px sz ag env0 L bx l D rec res k st G W) (hk:k<L.length):∃el x,L[L.length-1-k]?=some el∧uP sz ag el=some x:=by
 obtain⟨el,h1,h2⟩:=Bh hk;have hr:=h.rest;rw[h2]at hr;simp only[jf]at hr;cases hx:uP sz ag el with
 |none=>rw[hx]at hr;simp at hr
 |some x=>exact⟨el,x,h1,hx⟩
def iM:aU→Exit
 | .normal=>.normal
 | .ret=>.ret
 | .exit id=>.exit id
theorem Marks.lD{n0:Nat}{G:Gh}{a:Act}{w:World}{l:Nat}{r:Loop}(h:Marks n0 G a w)(hl:w.heap[l]?=some (.loop r))(o':Obj):Marks n0 G a (w.putObj l o'):=by
 obtain⟨e0,Ds,e1,e2,e3⟩:=h;refine⟨by simpa[World.putObj] using e0,Ds,e1,e2,fun D hD=>?_⟩;obtain⟨f0,f1,f2,f3⟩:=e3 D hD;refine⟨f0,by simpa[World.putObj] using f1,f2,?_⟩;rw[World.putObj_heap_other]
 ·exact f3
 ·rintro rfl;rw[hl]at f3;cases f3
def JX(ns:Names)(Gs:Gh)(w:World)(env0:List (Nat×AV))(l D:Nat)(rec:Option Code→Loop)(res:aU×St)(W':World):Prop:=
 ∃(e:aU) (st':St) (G':Gh),e≠.normal∧res=(e,{ st' with env:=env0 })∧Inv (num ns) G' W' st'.mem st'.sh st'.aa∧bu Gs w G' W' ∧
   W'.heap[l]?=some (.loop (rec (some (Ss e))))∧W'.heap[D]?=some (.deferred (some []))∧G'.role D=.dH
theorem BJ.round{N:Nat}{cx cy:Code}{fx fy:St→Option (aU×St)}{l:Nat}
   (hX:∀{st st':St} {e:aU} {G:Gh} {a:Act} {w:World} {Q:Exit→Act→World→Prop},fx st=some (e,st')→fM (num ns) 0 N G st a w→(∀G' a' w',fM (num ns) 0 N G' st' a' w'→bu G w G' w'→Q (iM e) a' w')→cx.wpIn (rC (some l)) 0 P Q a w)
   (hY:∀{st st':St} {e:aU} {G:Gh} {a:Act} {w:World} {Q:Exit→Act→World→Prop},fy st=some (e,st')→fM (num ns) 0 N G st a w→(∀G' a' w',fM (num ns) 0 N G' st' a' w'→bu G w G' w'→Q (iM e) a' w')→cy.wpIn (rC (some l)) 0 P Q a w)
   {Gs:Gh} {w:World} {live:List Nat} {pi px sz:Nat} {ag:Bool} {env0:List (Nat×AV)} {L:List PV} {bx D:Nat} {fn:FuncId} {a:Act} {res:aU×St} {k:Nat} {st:St} {G:Gh} {W:World}
   (henv:∀t x,look env0 t=some x→bD x=true∧∃v,a.tmps[t]?=some v∧aA (num ns) Gs x v) (hN:a.tmps.size=N) (hpi:pi<N) (hpx:px<N) (hl:w.heap.size≤l) (hD:w.heap.size≤D) (hne:l≠D)
   (h:BJ ns Gs w (andThen fx fy) live pi px sz ag env0 L bx l D (kH fn a.tmps #[pi,px] cx cy D .ready none) res k st G W) (hk:k<L.length) {el:PV} {x:AV} {v:Value} (hi:L[L.length-1-k]?=some el) (hx:uP sz ag el=some x) (hv:aA (num ns) G x v) :
   YieldAt Fence.wide 0 P l #[.int .i64 ((L.length-1-k:Nat):Int),v] W fun e W'=>(e=.returned (.bool true)∧∃st' G',BJ ns Gs w (andThen fx fy) live pi px sz ag env0 L bx l D (kH fn a.tmps #[pi,px] cx cy D .ready none) res (k+1) st' G' W') ∨
     (e=.returned (.bool false)∧JX ns Gs w env0 l D (kH fn a.tmps #[pi,px] cx cy D .done) res W'):=by
 obtain⟨el',h1,h2⟩:=Bh hk;rw[hi]at h1;cases h1;have hr:=h.rest;rw[h2]at hr;simp only[jf,hx]at hr;refine⟨fn,(a.tmps.setIfInBounds pi (.int .i64 ((L.length-1-k:Nat):Int))).setIfInBounds px v,cx,cy,by rw[run_yield h.EF rfl];simp[kH],roundIn_of_wpIn trivial ?_⟩
 have hs0:fM (num ns) 0 N G { st with env:=di (di env0 pi (.pv (.int .i64 ((L.length-1-k:Nat):Int)))) px x } { tmps:=(a.tmps.setIfInBounds pi (.int .i64 ((L.length-1-k:Nat):Int))).setIfInBounds px v,defers:=[] } W:=by
   refine⟨⟨by simp[hN],fun t y hy=>?_⟩,h.inv,Nat.zero_le _,[],rfl,by simp,by simp⟩;by_cases e1:px=t
   ·subst e1;rw[bG]at hy;cases hy;exact⟨v,by simp[hN,hpx],hv⟩
   · rw[bw _ _ _ _ e1]at hy;by_cases e2:pi=t
     ·subst e2;rw[bG]at hy;cases hy;refine⟨.int .i64 ((L.length-1-k:Nat):Int),?_,by simp[aA,Rel,R]⟩;rw[Array.getElem?_setIfInBounds_ne e1];simp[hN,hpi]
     ·rw[bw _ _ _ _ e2]at hy;obtain⟨f1,u,f2,f3⟩:=henv t y hy;exact⟨u,by rw[Array.getElem?_setIfInBounds_ne e1,Array.getElem?_setIfInBounds_ne e2];exact f2,gw h.uQ.K h.uQ.sm f1 f3⟩
 obtain⟨G0,hs1,he1⟩:=hs0.head live;cases hf:andThen fx fy (norm (restrict live { st with env:=di (di env0 pi (.pv (.int .i64 ((L.length-1-k:Nat):Int)))) px x })) with
 |none=>rw[hf]at hr;simp at hr
 |some q=>
   obtain⟨e,st4⟩:=q;rw[hf]at hr;unfold andThen at hf;cases hfx:fx (norm (restrict live { st with env:=di (di env0 pi (.pv (.int .i64 ((L.length-1-k:Nat):Int)))) px x })) with
   |none=>rw[hfx]at hf;simp at hf
   |some q=>
     obtain⟨e1,st2⟩:=q;rw[hfx]at hf;cases e1 with
     |ret=>simp at hf
     |exit id=>simp at hf
     |normal=>
       simp only at hf;refine hX hfx hs1 fun G2 a2 W2 hs2 he2=>?_;have he12:=he1.trans he2
       have ll:=(Array.getElem?_eq_some_iff.1 h.EF).1;have ld:=(Array.getElem?_eq_some_iff.1 h.Ul).1;obtain⟨rl2,hl2⟩:=he12.dH l ll h.rl;obtain⟨rd2,hd2⟩:=he12.dH D ld h.rd;rw[h.EF]at hl2;rw[h.Ul]at hd2;have ll2:=(Array.getElem?_eq_some_iff.1 hl2).1;have ld2:=(Array.getElem?_eq_some_iff.1 hd2).1;refine⟨_,run_beginRound hl2 rfl,?_⟩;refine hY hf ⟨hs2.env,hs2.inv.lD hl2 _,hs2.marks.lD hl2 _⟩ fun G4 a4 W4 hs4 he4=>?_
       have evo3:=(h.uQ.trans he12).putObj hl (.loop { kH fn a.tmps #[pi,px] cx cy D .ready none with state:=.busy });have evo4:=evo3.trans he4;have sz3:(W2.putObj l (.loop { kH fn a.tmps #[pi,px] cx cy D .ready none with state:=.busy })).heap.size=W2.heap.size:=(by simp[World.putObj]);obtain⟨rl4,hl4⟩:=he4.dH l (by rw[sz3];exact ll2) rl2;obtain⟨rd4,hd4⟩:=he4.dH D (by rw[sz3];exact ld2) rd2;rw[World.putObj_heap_same ll2]at hl4;rw[World.putObj_heap_other (Ne.symm hne),hd2]at hd4;have ll4:=(Array.getElem?_eq_some_iff.1 hl4).1;cases e with
       |normal=>
         refine⟨_,_,run_endRound none hl4,.inl ⟨rfl,st4,G4,hs4.inv.lD hl4 _,evo4.putObj hl _,?_,rl4,?_,rd4,we (bm.le_trans (bm.le_trans he12.K (bm.le_refl _)) he4.K) h.box,hr⟩⟩
         ·rw[World.putObj_heap_same ll4];rfl
         ·rw[World.putObj_heap_other (Ne.symm hne)];exact hd4
       |ret=>
         refine⟨_,_,run_endRound (some .ret) hl4,.inr ⟨rfl,.ret,st4,G4,by simp,(Option.some.inj hr).symm,hs4.inv.lD hl4 _,evo4.putObj hl _,?_,?_,rd4⟩⟩
         ·rw[World.putObj_heap_same ll4];rfl
         ·rw[World.putObj_heap_other (Ne.symm hne)];exact hd4
       |exit id=>
         refine⟨_,_,run_endRound (some (.exit id)) hl4,.inr ⟨rfl,.exit id,st4,G4,by simp,(Option.some.inj hr).symm,hs4.inv.lD hl4 _,evo4.putObj hl _,?_,?_,rd4⟩⟩
         ·rw[World.putObj_heap_same ll4];rfl
         ·rw[World.putObj_heap_other (Ne.symm hne)];exact hd4
theorem EG{orc:eH}(hB:gJ P ns)(horc:iA P ns orc){gb sz:Nat}{ag:Bool}(hD:∀f,ns.of f=some gb→Nonempty (yc P ns f sz ag)){N:Nat}{cx cy:Code}{fx fy:St→Option (aU×St)}
   (hX:∀{l:Nat} {st st':St} {e:aU} {G:Gh} {a:Act} {w:World} {Q:Exit→Act→World→Prop},fx st=some (e,st')→fM (num ns) 0 N G st a w→(∀G' a' w',fM (num ns) 0 N G' st' a' w'→bu G w G' w'→Q (iM e) a' w')→cx.wpIn (rC (some l)) 0 P Q a w)
   (hY:∀{l:Nat} {st st':St} {e:aU} {G:Gh} {a:Act} {w:World} {Q:Exit→Act→World→Prop},fy st=some (e,st')→fM (num ns) 0 N G st a w→(∀G' a' w',fM (num ns) 0 N G' st' a' w'→bu G w G' w'→Q (iM e) a' w')→cy.wpIn (rC (some l)) 0 P Q a w)
   {t pi px:Nat} {live:List Nat} (hpi:pi<N) (hpx:px<N) {st st':St} {e:aU} {n0:Nat} {G:Gh} {a:Act} {w:World} {Q:Exit→Act→World→Prop}
   (hev:jg (andThen fx fy) (look st.env t) gb pi px sz ag live st=some (e,st')) (hs:fM (num ns) n0 N G st a w)
   (hq:∀G' a' w',fM (num ns) n0 N G' st' a' w'→bu G w G' w'→Q (iM e) a' w'):(Code.rangeFunc (.tmp t) #[pi,px] cx cy).wpIn Fence.wide 0 P Q a w:=by
 unfold jg at hev;split at hev
 · rename_i g s hlook;split at hev
   · rename_i hg;subst hg;split at hev
     · rename_i L hsh;split at hev
       · rename_i hL;obtain⟨fv,hfv,hrel⟩:=hs.env.env t _ hlook;simp only[aA,az]at hrel;obtain⟨f,vs,hfg,rfl,ptr,r0,rfl,⟨⟨bx,nx⟩,hsm,rfl⟩,rfl⟩:=hrel;obtain⟨D⟩:=hD f hfg;obtain⟨G1,k1,k2,k3,k4,k5⟩:=Inv.kill [s] hs.inv;obtain⟨b',vs',e1,e2,e3⟩:=k4 s (by simp) _ hsh rfl;rw[hsm]at e1;cases e1
         have box1:aA (num ns) G1 (.dM [.aw L]) (.pointer (some ⟨bx,0,none⟩)):=by
           simp only[az,aA]at e3;obtain⟨v,r,rfl,e4,rfl⟩:=e3;simp only[aA];exact⟨bx,0,[v],rfl,e2,by simp only[dd];exact⟨v,[],rfl,e4,rfl⟩⟩
         have henv:∀t x,look (mY live st.env) t=some x→bD x=true∧∃v,a.tmps[t]?=some v∧aA (num ns) G1 x v:=by
           intro t x hx;have hm:=oU hx;simp only[mY,List.mem_filter]at hm;obtain⟨h1,h2⟩:=eB hm.1;obtain⟨v,h3,h4⟩:=hs.env.env t x h1;exact⟨hm.2,v,h3,h4.mono k2⟩
         refine wpIn_rangeFunc ?_;intro fn _;obtain⟨W1,hW1⟩:∃W1,(w.alloc (.deferred (some []))).alloc (.loop (kH fn a.tmps #[pi,px] cx cy w.heap.size .ready none))=W1:=⟨_,rfl⟩;have s0:(w.alloc (.deferred (some []))).heap.size=w.heap.size+1:=World.size_alloc _ _;have s1:W1.heap.size=w.heap.size+1+1:=by rw[←hW1,World.size_alloc,s0]
         have hL1:W1.heap[w.heap.size+1]?=some (.loop (kH fn a.tmps #[pi,px] cx cy w.heap.size .ready none)):=by
           rw[←hW1];have:=World.alloc_heap_new (w.alloc (.deferred (some []))) (.loop (kH fn a.tmps #[pi,px] cx cy w.heap.size .ready none));rwa [World.size_alloc]at this
         have hK1:W1.heap[w.heap.size]?=some (.deferred (some [])):=by
           rw[←hW1,RowKit.Below.heap_alloc _ _ _ (by omega)];exact World.alloc_heap_new w _
         have i1:Inv (num ns) G1 W1 st.mem (kill st.sh [s]) st.aa:=(by rw[←hW1];exact (k1.tG _).tG _);have v1:bu G1 w G1 W1:=by rw[←hW1];exact ((bu.refl G1 w).tG _).tG _
         have hcall:=O1 hB horc D hL (bx:=bx) (l:=w.heap.size+1) (J:=fun k st2 G2 W2=>BJ ns G1 w (andThen fx fy) live pi px sz ag (mY live st.env) L bx (w.heap.size+1) w.heap.size (kH fn a.tmps #[pi,px] cx cy w.heap.size .ready none) (e,st') k st2 G2 W2)
           (Jx:=JX ns G1 w (mY live st.env) (w.heap.size+1) w.heap.size (kH fn a.tmps #[pi,px] cx cy w.heap.size .done) (e,st'))
           (fun h=>h.inv) (fun h hi he=>h.go hi he) (fun h=>h.box) (fun h hk=>h.el hk) (fun h hk hi hx hv=>h.round hX hY henv hs.env.size hpi hpx (by omega) (Nat.le_refl _) (by omega) hk hi hx hv)
           (st:={ st with sh:=kill st.sh [s] }) (G:=G1) (W:=W1) ⟨i1,v1,hL1,k1.fresh _ (by omega),hK1,k1.fresh _ (Nat.le_refl _),box1,by rw[List.drop_zero];exact hev⟩
         have hpost:CallsIn Fence.wide (0-1) P f (#[.func (.yield (w.heap.size+1)) #[] #[]]++#[.pointer (some ⟨bx,0,none⟩)]) W1 (rangePost Fence.wide 0 P (w.heap.size+1) Q { a with defers:=[{ target:=.collected w.heap.size,args:=#[] }]++a.defers }):=by
           refine CallsIn.mono hcall ?_
           have fin:∀(st2:St) (G2:Gh) (W2:World) (r:Loop),Inv (num ns) G2 W2 st2.mem st2.sh st2.aa→bu G1 w G2 W2→W2.heap[w.heap.size+1]?=some (.loop r)→W2.heap[w.heap.size]?=some (.deferred (some []))→G2.role w.heap.size=.dH→st'={ st2 with env:=mY live st.env } →
               Q (iM e) { a with defers:=[{ target:=.collected w.heap.size,args:=#[] }]++a.defers } (W2.putObj (w.heap.size+1) (.loop { r with state:=.exhausted })):=by
             intro st2 G2 W2 r q1 q2 q3 q4 q5 q6;have ev:=k3.trans (q2.putObj (Nat.le_succ _) (.loop { r with state:=.exhausted }));refine hq G2 _ _ ?_ ev;subst q6;refine⟨⟨hs.env.size,fun t x hx=>?_⟩,q1.lD q3 _,?_⟩
             ·obtain⟨f1,v,f2,f3⟩:=henv t x hx;exact⟨v,f2,gw q2.K q2.sm f1 f3⟩
             · obtain⟨m0,Ds,m1,m2,m3⟩:=hs.marks;refine⟨Nat.le_trans m0 ev.size,w.heap.size::Ds,by simp[m1],?_,?_⟩
               ·rw[List.nodup_cons];refine⟨fun hm=>?_,m2⟩;exact absurd (m3 _ hm).2.1 (Nat.lt_irrefl _)
               · intro D hD;rcases List.mem_cons.1 hD with rfl|hD
                 ·have hd:=(Array.getElem?_eq_some_iff.1 q4).1;refine⟨m0,by simpa[World.putObj] using hd,q5,?_⟩;rw[World.putObj_heap_other (by omega)];exact q4
                 ·obtain⟨f0,f1,f2,f3⟩:=m3 D hD;obtain⟨g1,g2⟩:=ev.dH D f1 f2;exact⟨f0,Nat.lt_of_lt_of_le f1 ev.size,g1,g2.trans f3⟩
           rintro _ W' ⟨⟨v,rfl⟩,(⟨st2,G2,hJ⟩|⟨e2,st2,G2,hne,gA,q1,q2,q3,q4,q5⟩)⟩
           ·have hr:=hJ.rest;rw[List.drop_eq_nil_of_le (by simp)]at hr;simp only[jf,Option.some.injEq,Prod.mk.injEq]at hr;obtain⟨rfl,h2⟩:=hr;exact⟨_,_,run_endLoop hJ.EF (by simp[kH]),fin st2 G2 W' _ hJ.inv hJ.uQ hJ.EF hJ.Ul hJ.rd h2.symm⟩
           · simp only[Prod.mk.injEq]at gA;obtain⟨rfl,h2⟩:=gA;refine⟨_,_,run_endLoop q3 (by simp[kH]),?_⟩;cases e with
             |normal=>exact absurd rfl hne
             |ret=>exact wpIn_ret (fin st2 G2 W' _ q1 q2 q3 q4 q5 h2)
             |exit id=>exact wpIn_exit (fin st2 G2 W' _ q1 q2 q3 q4 q5 h2)
         have henter:(Instr.enterLoop fn a.tmps #[pi,px] cx cy Fence.wide.round).run P w=.ok (w.heap.size+1,[{ target:=.collected w.heap.size,args:=#[] }]) W1:=by rw[←hW1];exact run_enterLoop_outer _ _ _ _ _
         have gA:(resolve a.eval (rangeCall (.tmp t) (w.heap.size+1)) 0).run P W1=.ok { target:=.fn (.func f) #[.pointer (some ⟨bx,0,none⟩)],args:=#[.func (.yield (w.heap.size+1)) #[] #[]] } W1:=by
           have heval:a.eval (.tmp t)=.func (.func f) #[] #[.pointer (some ⟨bx,0,none⟩)]:=(by simp[Act.eval,hfv]);simp only[resolve,rangeCall,heval];simp[go_sem]
         have hinv:(invoke (.fn (.func f) #[.pointer (some ⟨bx,0,none⟩)]) #[.func (.yield (w.heap.size+1)) #[] #[]]).run P W1=.ok (.enter f (#[.func (.yield (w.heap.size+1)) #[] #[]]++#[.pointer (some ⟨bx,0,none⟩)])) W1:=by
           simp only[invoke];exact lq hB hfg _
         exact⟨_,_,W1,_,W1,f,_,W1,henter,gA,fun _ _=>trivial,hinv,fun h=>absurd h (by simp[Fence.wide]),hpost⟩
       ·simp at hev
     ·simp at hev
   ·simp at hev
 ·simp at hev
end
end Go.Ab
namespace Go.Ab
open Ev
structure pc(P:Program)(ns:Names)(f sz bytes:Nat) where
 fn:Func
 A:kD
 t:TypeId
 el:TypeId
 ty:TypeId
 o0:Oper
 m:Oper
 e:Oper
 o2:Oper
 b:Oper
 m3:Oper
 ap:Oper
 A2:kD
 ag:Bool
 fi:Oper
 r0:Nat
 r1:Nat
 r2:Nat
 r3:Nat
 hf:P.funcs[f]?=some fn
 Bf:fn.body=some (.seq (.region r0 #[o0] false) (.seq (.seq (.region r1 #[m,e] false) (.cond (.tmp 4) (.seq (.region r2 #[o2] false) .ret) .skip)) (.seq (.region r3 #[b,m3,ap,fi] false) .ret))):=by kernel_rfl
 gA:fn.results=#[.tmp 2]:=by kernel_rfl
 hN:fn.ntmps=8:=by kernel_rfl
 h0:o0.op=.assign (.const (.slice none 0 0))∧o0.dst=some 2∧o0.guard=none:=by refine⟨?_,?_,?_⟩<;>kernel_rfl
 h1:m.op=.move (.tmp 0)∧m.dst=some 3∧m.guard=none:=by refine⟨?_,?_,?_⟩<;>kernel_rfl
 h2:e.op=.binOp .eql t (.tmp 3) (.const (.slice none 0 0)) ty∧e.dst=some 4∧e.guard=none:=by refine⟨?_,?_,?_⟩<;>kernel_rfl
 hu:P.underlying t=some (.slice el):=by kernel_rfl
 h3:o2.op=.assign (.const (.slice none 0 0))∧o2.dst=some 2∧o2.guard=none:=by refine⟨?_,?_,?_⟩<;>kernel_rfl
 h4:bo P ns A b.dst b.op=some (.v (.dZ sz),[])∧b.dst=some 5∧b.guard=none:=by refine⟨?_,?_,?_⟩<;>kernel_rfl
 h5:m3.op=.move (.tmp 0)∧m3.dst=some 6∧m3.guard=none:=by refine⟨?_,?_,?_⟩<;>kernel_rfl
 h6:bo P ns A ap.dst ap.op=some (.append sz bytes,[.tmp 5,.tmp 6])∧ap.dst=some 7∧ap.guard=none:=by refine⟨?_,?_,?_⟩<;>kernel_rfl
 h8:bo P ns A2 ap.dst ap.op=some (.dQ sz bytes ag,[.tmp 5,.tmp 6]):=by kernel_rfl
 h7:fi.op=.assign (.tmp 7)∧fi.dst=some 2∧fi.guard=none:=by refine⟨?_,?_,?_⟩<;>kernel_rfl
section
variable {P:Program} {ns:Names}
theorem jZ{F:Fence}{n:Nat}{ops:Array Oper}{Q:Exit→Act→World→Prop}{rest:List Oper}{o:Oper}{x:Operand}{a:Act}{w:World}(hF:∀f,F.fn f)(ho:o.op=.assign x)(hg:o.guard=none)
   (h:wpListIn F n P ops Q rest (a.put o.dst (a.eval x)) w):wpListIn F n P ops Q (o::rest) a w:=by
 unfold wpListIn;have hw:Region.wanted o (yielded ops a.tmps)=true:=by simp[Region.wanted,hg]
 rw[if_pos hw];refine⟨fun _ _=>hF _,?_⟩;rw[Oper.semAt_eq _ _ _ (by intro c e;rw[ho]at e;cases e)]
 have hr:(execOp a.eval o).run P w=.ok (.value (a.eval x)) w:=by
   obtain⟨dst,op,type,pos,after,guard⟩:=o;simp only at ho;subst ho;simp[execOp]
 rw[hr];exact h
theorem oo{G:Gh}{A:kD}{n:Nat}{ops:Array Oper}{Q:Exit→Act→World→Prop}{rest:List Oper}{o:Oper}{k:AK}{args:List Operand}{a:Act}{w:World}(hg:o.guard=none){orc:eH}(hc:bo P ns A o.dst o.op=some (k,args))(hk:k.calls=false)
   {vals:List AV} {out:Out} {mem:List (Nat×List AV)} {sh:Sh} {aa:aG} (hkey:k.key=none) (hr:az (num ns) G vals (args.map a.eval)) (hi:Inv (num ns) G w mem sh aa) (h:exec orc k vals none sh aa=some out)
   (hn:∀v w' G',aA (num ns) G' out.val v→Inv (num ns) G' w' mem out.sh out.aa→G.le G'→bu G w G' w'→wpListIn Fence.wide n P ops Q rest (a.put o.dst v) w'):wpListIn Fence.wide n P ops Q (o::rest) a w:=by
 unfold wpListIn;have hw:Region.wanted o (yielded ops a.tmps)=true:=by simp[Region.wanted,hg]
 rw[if_pos hw];have hdef:∀c,o.op≠.defer c:=by intro c e;rw[e]at hc;simp[bo]at hc
 refine FI (ro:=none) hdef ?_;obtain⟨nx,v,w',G',g1,g2,g3,g4,g5,g6⟩:=qC (orc:=orc) (mem:=mem) hc hk hr hi (by rw[hkey];exact h);have g4':Inv (num ns) G' w' mem out.sh out.aa:=by rw[hkey]at g4;exact g4
 unfold Oper.wp;rw[g1];rcases g2 with rfl|⟨rfl,rfl⟩
 ·exact hn v w' G' g3 g4' g5 g6
 ·exact hn undef w' G' g3 g4' g5 g6
theorem EH{F:Fence}{n:Nat}{ops:Array Oper}{Q:Exit→Act→World→Prop}{rest:List Oper}{o:Oper}{t el ty:TypeId}{a:Act}{w:World}{base:Option Addr}{len cap:Nat}(hF:∀f,F.fn f)
   (ho:o.op=.binOp .eql t (.tmp 3) (.const (.slice none 0 0)) ty) (hg:o.guard=none) (hu:P.underlying t=some (.slice el)) (h3:a.tmps[3]?=some (.slice base len cap))
   (h:wpListIn F n P ops Q rest (a.put o.dst (.bool base.isNone)) w):wpListIn F n P ops Q (o::rest) a w:=by
 unfold wpListIn;have hw:Region.wanted o (yielded ops a.tmps)=true:=by simp[Region.wanted,hg]
 rw[if_pos hw];refine⟨fun _ _=>hF _,?_⟩;rw[Oper.semAt_eq _ _ _ (by intro c e;rw[ho]at e;cases e)];have e3:a.eval (.tmp 3)=.slice base len cap:=by simp[Act.eval,h3]
 have ec:a.eval (.const (.slice none 0 0))=.slice none 0 0:=rfl
 have he:(Op.equal t (.slice base len cap) (.slice none 0 0)).run P w=.ok base.isNone w:=by
   have h:∀d:Nat,(Op.equalIn (d+1) t (.slice base len cap) (.slice none 0 0)).run P w=.ok base.isNone w:=fun d=>by
     cases base<;>simp[Op.equalIn,run_underlying hu]
   exact h 9999
 have hr:(execOp a.eval o).run P w=.ok (.value (.bool base.isNone)) w:=by
   obtain⟨dst,op,type,pos,after,guard⟩:=o;simp only at ho;subst ho;simp only[execOp,e3,ec];simp[eqGuard,binOp,he]
 rw[hr];exact h
theorem Bi{f sz bytes:Nat}(D:pc P ns f sz bytes):Km P ns f sz bytes:=by
 intro oc G w mem sh sh' aa toks' x y v hi hx hap;refine callsIn_wide (n:=0).1 ?_;refine callsIn_of_wp D.hf D.Bf trivial ?_ rfl;rw[D.hN];have hF:∀f,Fence.wide.fn f:=fun _=>trivial
 let orc:eH:={ p:=fun _ _=>none,i:=fun _ _ _ _=>none }
 have fin:∀(a:Act) (w':World) (u:Value) (G':Gh),a.defers=[]→a.tmps[2]?=some u→aA (num ns) G' y u→Inv (num ns) G' w' mem sh' toks'→G.le G'→bu G w G' w' →
     a.defers=[]∧∃v,(results D.fn a.tmps).run P w'=.ok v w'∧∃u G',Ending.returned v=.returned u∧aA (num ns) G' y u∧Inv (num ns) G' w' mem sh' toks'∧G.le G'∧bu G w G' w':=by
   intro a w' u G' hd h2 r1 r2 r3 r4;refine⟨hd,u,?_,u,G',rfl,r1,r2,r3,r4⟩;simp[results,D.gA,h2]
 obtain⟨els,hels⟩:∃els,cf x=some els:=by
   cases hq:cf x with
   |none=>cases oc<;>simp[fF,bS,hq]at hap
   |some els=>exact⟨els,rfl⟩
 obtain⟨base,cap,rfl⟩:=iw hels hx;refine wpIn_seq (wpIn_region_list ?_);refine jZ hF D.h0.1 D.h0.2.2 ?_;rw[D.h0.2.1];simp only[wpListIn];refine wpIn_seq (wpIn_seq (wpIn_region_list ?_));refine p6 hF D.h1.1 D.h1.2.2 ?_;rw[D.h1.2.1];refine EH (base:=base) (len:=els.length) (cap:=cap) hF D.h2.1 D.h2.2.2 D.hu (by simp[Act.put,Act.eval]) ?_;rw[D.h2.2.1];simp only[wpListIn];cases base with
 |none=>
   refine wpIn_cond_true (by simp[Act.put,Act.eval]) ?_;refine wpIn_seq (wpIn_region_list ?_);refine jZ hF D.h3.1 D.h3.2.2 ?_;rw[D.h3.2.1];simp only[wpListIn];refine wpIn_ret ?_
   have hn:els=[]:=by
     have:=dP hels hx;obtain⟨b,l,c,e,_,e2⟩:=bP.1 this;cases e;rcases e2.2 with h|⟨_,_,_,h,_⟩
     ·exact h
     ·cases h
   subst hn
   obtain⟨rfl,rfl,rfl⟩:AV.cY []=y∧sh=sh'∧aa=toks':=by
     cases oc with
     |none=>simpa[fF,bS,hels,a_] using hap
     |some ag=>simpa[fF,rm,hels,a_] using hap
   exact fin _ _ (.slice none 0 0) G (by simp[Act.put]) (by simp[Act.put,Act.eval]) (by simp only[aA];exact⟨none,0,rfl,rfl,.inl rfl⟩) hi G.le_refl (bu.refl G w)
 |some ad=>
   refine wpIn_cond_false (by simp[Act.put,Act.eval]) (wpIn_skip ?_);refine wpIn_seq (wpIn_region_list ?_);refine oo (orc:=orc) (out:=⟨.cY [],none,sh,aa⟩) D.h4.2.2 D.h4.1 rfl rfl (vals:=[]) (by simp[az]) hi (by rfl) fun v1 w1 G1 q1 q2 q3 q4=>?_;rw[D.h4.2.1];refine p6 hF D.h5.1 D.h5.2.2 ?_;rw[D.h5.2.1];cases oc with
   |none=>
     simp only[fF,Option.map_eq_some_iff,Prod.mk.injEq]at hap;obtain⟨⟨y',ts'⟩,hap,rfl,rfl,rfl⟩:=hap;refine oo (orc:=orc) (out:=⟨y',none,sh,ts'⟩) D.h6.2.2 D.h6.1 rfl rfl (vals:=[.cY [],x]) (mem:=mem) (sh:=sh) (aa:=aa) ?_ q2 (by simp only[exec,hap,Option.map_some]) fun v2 w2 G2 p1 p2 p3 p4=>?_
     · simp only[List.map_cons,List.map_nil,az];refine⟨_,_,rfl,?_,_,_,rfl,?_,rfl⟩
       ·simpa[Act.put,Act.eval] using q1
       ·simpa[Act.put,Act.eval] using hx.mono q3
     rw[D.h6.2.1];refine jZ hF D.h7.1 D.h7.2.2 ?_;rw[D.h7.2.1];simp only[wpListIn];refine wpIn_ret ?_;exact fin _ _ v2 G2 (by simp[Act.put]) (by simp[Act.put,Act.eval]) p1 p2 (Gh.le_trans q3 p3) (q4.trans p4)
   |some ag=>
     simp only[fF,hels]at hap;rw[Option.ite_none_right_eq_some]at hap;obtain⟨hhd,hap⟩:=hap;simp only[Option.map_eq_some_iff,Prod.mk.injEq]at hap;obtain⟨⟨y',sh1⟩,hap,rfl,rfl,rfl⟩:=hap
     obtain⟨y2,hap2,hsame⟩:∃y2,rm sz bytes D.ag (.cY []) els sh=some (y2,sh1)∧∀G' u,aA (num ns) G' y2 u→aA (num ns) G' y' u:=by
       unfold rm at hap⊢;split at hap
       ·rename_i h0;rw[if_pos h0];cases hap;exact⟨_,rfl,fun _ _ h=>h⟩
       ·rename_i h0;rw[if_neg h0];simp only[Option.ite_none_right_eq_some,Option.some.injEq,Prod.mk.injEq]at hap;obtain⟨h1,rfl,rfl⟩:=hap;rw[if_pos h1];exact⟨_,rfl,fun _ _ h=>by simpa only[aA] using h⟩
     refine oo (orc:=orc) (out:=⟨y2,none,sh1,aa⟩) D.h6.2.2 D.h8 rfl rfl (vals:=[.cY [],x]) (mem:=mem) (sh:=sh) (aa:=aa) ?_ q2 (by simp only[exec,hels,hhd,if_true,rn,hap2,Option.map_some]) fun v2 w2 G2 p1 p2 p3 p4=>?_
     · simp only[List.map_cons,List.map_nil,az];refine⟨_,_,rfl,?_,_,_,rfl,?_,rfl⟩
       ·simpa[Act.put,Act.eval] using q1
       ·simpa[Act.put,Act.eval] using hx.mono q3
     rw[D.h6.2.1];refine jZ hF D.h7.1 D.h7.2.2 ?_;rw[D.h7.2.1];simp only[wpListIn];refine wpIn_ret ?_;exact fin _ _ v2 G2 (by simp[Act.put]) (by simp[Act.put,Act.eval]) (hsame _ _ p1) p2 (Gh.le_trans q3 p3) (q4.trans p4)
end
end Go.Ab
namespace Go.Ab
section
variable {n0:Nat} {P:Program} {ns:Names} {ro:Option Nat}
theorem qQ{c:Code}{Q:Exit→Act→World→Prop}{f:St→Option (aU×St)}{pre:St→St}{N:Nat}
   (hpre:∀{st:St} {G:Gh} {a:Act} {w:World},fM (num ns) n0 N G st a w→∃G',fM (num ns) n0 N G' (pre st) a w∧bu G w G' w)
   (hf:∀{st st':St} {e:aU} {G:Gh} {a:Act} {w:World} {Q:Exit→Act→World→Prop},f st=some (e,st')→fM (num ns) n0 N G st a w →
     (∀G' a' w',fM (num ns) n0 N G' st' a' w'→bu G w G' w'→Q (iM e) a' w')→c.wpIn (rC ro) 0 P Q a w) :
   ∀(n:Nat) {st st':St} {e:aU} {G:Gh} {a:Act} {w:World},eW f pre n st=some (e,st')→fM (num ns) n0 N G st a w →
     (∀G' a' w',fM (num ns) n0 N G' st' a' w'→bu G w G' w'→Q (iM e) a' w')→Code.roundsIn (rC ro) 0 P c Q n a w
 |0,st,st',e,G,a,w,h,_,_=>by simp[eW]at h
 |n+1,st,st',e,G,a,w,h,hs,hq=>by
   rw[roundsIn_succ];obtain⟨G0,hs0,he0⟩:=hpre hs;simp only[eW]at h;split at h
   ·rename_i st1 h1;refine hf h1 hs0 fun G' a' w' hs' he'=>?_;exact qQ hpre hf n h hs' fun G'' a'' w'' hs'' he''=>hq G'' a'' w'' hs'' ((he0.trans he').trans he'')
   · rename_i r hr
     have hne:e≠.normal:=by
       rintro rfl
       exact hr st' h
     refine hf h hs0 fun G' a' w' hs' he'=>?_;have:=hq G' a' w' hs' (he0.trans he')
     cases e with
     |normal=>exact absurd rfl hne
     |ret=>exact this
     |exit id=>exact this
theorem EI{ρ:bK}{G:Gh}{x:AV}{v:Value}(h:aA ρ G x v):aA ρ G (nJ x) v:=by
 cases x with
 |cY l=>
   simp only[aA]at h;obtain⟨base,len,e,r⟩:=h;simp only[nJ,aA];exact bP.2 ⟨base,len,len,e,Nat.le_refl _,r⟩
 |_=>exact h
theorem tH{ρ:bK}{G:Gh}:∀(n:Nat) {xs:List AV} {vs:List Value},az ρ G xs vs→az ρ G ((xs.take n).map nJ++xs.drop n) vs
 |0,xs,vs,h=>by simpa using h
 |n+1,[],vs,h=>by simpa using h
 |n+1,x::r,vs,h=>by
   simp only[az]at h;obtain⟨v,q,rfl,h1,h2⟩:=h;simp only[List.take_succ_cons,List.map_cons,List.drop_succ_cons,List.cons_append,az];exact⟨v,q,rfl,EI h1,tH n h2⟩
theorem wg{p:AV→Bool}(hp:∀l,p (.cY l)=true→p (.pv (.aw l))=true){xs:List AV}(h:xs.all p=true)(n:Nat):((xs.take n).map nJ++xs.drop n).all p=true:=by
 rw[List.all_eq_true]at h⊢;intro y hy;rw[List.mem_append,List.mem_map]at hy;rcases hy with⟨x,hx,rfl⟩|hy
 ·have:=h x (List.mem_of_mem_take hx);cases x<;>first|exact this|exact hp _ this
 ·exact h y (List.mem_of_mem_drop hy)
theorem EJ{N:Nat}{v:AV}{st:St}{G:Gh}{a:Act}{w:World}(h:fM (num ns) n0 N G st a w):∃G',fM (num ns) n0 N G' (w5 v st) a w∧bu G w G' w:=by
 unfold w5;split
 · rename_i st' b;split
   · rename_i cs hcs;refine⟨G,⟨h.env,?_,h.marks⟩,bu.refl G w⟩;have i:=h.inv;refine⟨i.known,i.bh,i.fresh,i.cG,i.gE,?_,?_,i.cT,i.eI,i.l5⟩
     · intro s cells hs;rw[List.getElem?_set]at hs;by_cases hb:b=s
       ·subst hb;have hlt:=(List.getElem?_eq_some_iff.1 hcs).1;rw[if_pos rfl,if_pos hlt]at hs;cases hs;obtain⟨q,e1,⟨e2,o,e3,e4⟩,e5,e6⟩:=i.cR b cs hcs;refine⟨q,e1,⟨e2,o,e3,e4.to (fun _ _ _ h=>h) (fun kvs hk=>by subst hk;simp[nJ]) fun vs=>tH _⟩,wg (fun _ _=>rfl) e5 _,wg (fun _ _=>rfl) e6 _⟩
       ·rw[if_neg hb]at hs;exact i.cR s cells hs
     ·intro s q hs;rw[List.length_set];exact i.eo s q hs
   ·exact⟨G,h,bu.refl G w⟩
 · rename_i st' d;split
   · rename_i cs hcs;split
     · rename_i ps hps;obtain⟨G1,k1,k2,k3,k4,k5⟩:=Inv.kill ([.agg cs].flatMap ei) h.inv;obtain⟨b,e1,⟨e2,c,t,e3,e4⟩,e5⟩:=h.inv.cG d cs hcs;obtain⟨b',f1,⟨f2,c',t',f3,f4⟩,f5⟩:=k1.cG d cs hcs;have hb:b=b':=by have:=k2.pm d b e1;rw[f1]at this;simpa using this.symm
       subst hb;have hcc:c=c':=by rw[e3]at f3;cases f3;rfl
       subst hcc;have hrl:dd G1.K ps c.toList:=lr k2 k4 h.inv.sV (fun s hs=>by simpa using hs) hps e4
       have hlf:(ps.map AV.pv).all a0=true:=by
         rw[List.all_eq_true];intro x hx;rw[List.mem_map]at hx;obtain⟨p,hp,rfl⟩:=hx;have:=kF hrl p hp;cases p<;>first|rfl|simp[gW]at this
       refine⟨G1,⟨⟨h.env.size,fun t' x hx=>?_⟩,?_,h.marks.uQ k3 rfl⟩,k3⟩
       ·obtain⟨u',g1,g2⟩:=h.env.env t' x hx;exact⟨u',g1,g2.mono k2⟩
       · refine⟨k1.known,k1.bh,k1.fresh,?_,?_,k1.cR,k1.eo,k1.cT,k1.eI,k1.l5⟩
         · intro d' cs' hd';by_cases hdd:d=d'
           ·subst hdd;rw[bG]at hd';cases hd';exact⟨b,f1,⟨f2,c,t',f3,iv hrl⟩,hlf⟩
           ·rw[bw _ _ _ _ hdd]at hd';exact k1.cG d' cs' hd'
         · intro d' b' hd';by_cases hdd:d=d'
           ·subst hdd;rw[bG];rfl
           ·rw[bw _ _ _ _ hdd];exact k1.gE d' b' hd'
     ·exact⟨G,h,bu.refl G w⟩
   ·exact⟨G,h,bu.refl G w⟩
 ·exact⟨G,h,bu.refl G w⟩
theorem jB{N:Nat}:∀{ts:List Nat} {st:St} {G:Gh} {a:Act} {w:World},fM (num ns) n0 N G st a w→∃G',fM (num ns) n0 N G' (nG ts st) a w∧bu G w G' w
 |[],st,G,a,w,h=>⟨G,h,bu.refl G w⟩
 |t::r,st,G,a,w,h=>by
   simp only[nG];split
   · rename_i v hv;split
     · rename_i p hp;obtain⟨G1,k1,k2,k3,k4,k5⟩:=Inv.kill ([v].flatMap ei) h.inv;obtain⟨u,hu,hr⟩:=h.env.env t v hv;have hrel:Rel G1.K p u:=sU k2 k4 h.inv.sV (fun s hs=>by simpa using hs) hp hr
       have h1:fM (num ns) n0 N G1 { st with env:=di st.env t (.pv p),sh:=c_ st.sh [v] } a w:=by
         refine⟨⟨h.env.size,fun t' x hx=>?_⟩,k1,h.marks.uQ k3 rfl⟩;by_cases ht:t'=t
         ·subst ht;rw[Ev.nf,if_pos rfl]at hx;cases hx;exact⟨u,hu,by simpa only[aA] using hrel⟩
         ·rw[Ev.nf,if_neg ht]at hx;obtain⟨u',f1,f2⟩:=h.env.env t' x hx;exact⟨u',f1,f2.mono k2⟩
       obtain⟨G2,h2,he⟩:=jB (ts:=r) h1;exact⟨G2,h2,k3.trans he⟩
     ·obtain⟨G1,h1,e1⟩:=EJ (v:=v) h;obtain⟨G2,h2,e2⟩:=jB (ts:=r) h1;exact⟨G2,h2,e1.trans e2⟩
   ·exact jB h
theorem nj{α:Type}{d:Nat}:∀{l:List (Nat×α)} {t:Nat},look (rq d l) t=if t=d then none else look l t
 |[],t=>by simp[rq,look]
 |(k,v)::r,t=>by
   simp only[rq];by_cases hk:k=d
   · rw[if_pos hk,nj];by_cases ht:t=d
     ·rw[if_pos ht,if_pos ht]
     ·rw[if_neg ht,if_neg ht];simp only[look];rw[if_neg (by rintro rfl;exact ht hk)]
   · rw[if_neg hk];simp only[look];by_cases hkt:k=t
     ·subst hkt;rw[if_pos rfl,if_neg hk,if_pos rfl]
     ·rw[if_neg hkt,if_neg hkt,nj]
theorem p7{d s sz n:Nat}{ag:Bool}{env:List (Nat×AV)}:∀{l:List Nat} {t:Nat} {x:AV},look (rp d s sz n ag env l) t=some x →
   ∃y,look env t=some y∧y3 d s sz n ag y=some x
 |[],t,x,h=>by simp[rp,look]at h
 |k::r,t,x,h=>by
   simp only[rp]at h;split at h
   · rename_i v hv;simp only[look]at h;split at h
     ·rename_i e;subst e;cases h;rw[Option.bind_eq_some_iff]at hv;exact hv
     ·exact p7 h
   ·exact p7 h
def Gh.lZ(G:Gh)(d b s n:Nat):Gh:=
 { G with role:=fun x=>if x=b then .shr s else G.role x,pm:=fun x=>if x=d then none else G.pm x,sm:=fun x=>if x=s then some (b,n) else G.sm x }
theorem Bj{ρ:bK}{G:Gh}{d b s n:Nat}(hs:G.sm s=none){x:AV}{v:Value}(hf:jN x=true)(h:aA ρ G x v):aA ρ (G.lZ d b s n) x v:=by
 refine vN (G':=G.lZ d b s n) (bm.le_refl G.K) (fun s' b' e=>?_) (fun _ _ e=>e) hf h;simp only[Gh.lZ];rw[if_neg (by rintro rfl;rw[hs]at e;cases e)];exact e
theorem Bk{x:AV}(h:a0 x=true):jN x=true:=by
 rcases nX h with hf|⟨l,τ,rfl⟩
 · cases x with
   |own l τ=>rfl
   |_=>simpa[jN] using hf
 ·rfl
theorem pd:∀{xs:List AV},xs.all a0=true→eT xs=true
 |[],_=>rfl
 |x::xs,h=>by
   simp only[List.all_cons,Bool.and_eq_true]at h;simp only[eT,Bool.and_eq_true];exact⟨Bk h.1,pd h.2⟩
theorem p8{ρ:bK}{G:Gh}{d b s n:Nat}(hs:G.sm s=none){xs:List AV}{vs:List Value}(hf:xs.all a0=true)(h:az ρ G xs vs):az ρ (G.lZ d b s n) xs vs:=by
 refine jw (G':=G.lZ d b s n) (bm.le_refl G.K) (fun s' b' e=>?_) (fun _ _ e=>e) (pd hf) h;simp only[Gh.lZ];rw[if_neg (by rintro rfl;rw[hs]at e;cases e)];exact e
theorem EK{N d sz:Nat}{ag:Bool}{st:St}{G:Gh}{a:Act}{w:World}(h:fM (num ns) n0 N G st a w):∃G',fM (num ns) n0 N G' (GA d sz ag st) a w∧bu G w G' w:=by
 unfold GA;split
 · rename_i cells hcs;split
   · rename_i hok;obtain⟨hlf,hrf⟩:=hok;obtain⟨b,e1,⟨e2,c,t,e3,e4⟩,e5⟩:=h.inv.cG d cells hcs
     have hsm:G.sm st.sh.length=none:=by
       cases hx:G.sm st.sh.length with
       |none=>rfl
       |some b'=>have:=h.inv.eo _ _ hx;omega
     have hcl:c.size=cells.length:=by have:=e4.length;simpa using this
     have hbs:b<w.heap.size:=(Array.getElem?_eq_some_iff.1 e3).1
     have hevo:bu G w (G.lZ d b st.sh.length cells.length) w:=
       { size:=Nat.le_refl _,os:=rfl,tape:=rfl,output:=rfl,K:=bm.le_refl G.K
         sm:=fun s' b' e=>by
           simp only[Gh.lZ];rw[if_neg (by rintro rfl;rw[hsm]at e;cases e)];exact e
         dH:=fun b' _ hr=>⟨by
           simp only[Gh.lZ];rw[if_neg (by rintro rfl;rw[e2]at hr;cases hr)];exact hr,rfl⟩
         iK:=fun b' τ _ hr=>.inr ⟨τ,by
           simp only[Gh.lZ];rw[if_neg (by rintro rfl;rw[e2]at hr;cases hr)];exact hr⟩
         gF:=fun _ _ _ _ _ hk=>hk }
     have hrole:∀b' r,G.role b'=r→r≠.l0 d→(G.lZ d b st.sh.length cells.length).role b'=r:=by
       intro b' r hr hn;simp only[Gh.lZ];rw[if_neg (by rintro rfl;rw[e2]at hr;exact hn hr.symm)];exact hr
     refine⟨G.lZ d b st.sh.length cells.length,⟨⟨h.env.size,fun t' x hx=>?_⟩,?_,h.marks.uQ hevo rfl⟩,hevo⟩
     · obtain⟨y,hy,hv⟩:=p7 hx;obtain⟨u,g1,g2⟩:=h.env.env t' y hy;refine⟨u,g1,?_⟩
       have aV:dW [] y=true→x=y→aA (num ns) (G.lZ d b st.sh.length cells.length) x u:=by
         rintro hk rfl
         cases x with
         |own l τ=>exact Bj hsm rfl g2
         |agg cs=>
           simp only[aA]at g2⊢;obtain⟨vs,q1,q2⟩:=g2;refine⟨vs,q1,jw (G':=G.lZ d b st.sh.length cells.length) (bm.le_refl G.K) (fun s' b' e=>hevo.sm s' b' e) (fun _ _ e=>e) (by simpa[dW] using hk) q2⟩
         |au _ _=>simp[dW]at hk
         |jJ _ _=>simp[dW]at hk
         |_=>exact Bj hsm (by simpa[jN,dW] using hk) g2
       unfold y3 at hv;split at hv
       · rename_i d' o;simp only[aA]at g2;obtain⟨b',q1,q2⟩:=g2;simp only[Option.some.injEq]at hv;split at hv
         ·rename_i hd;subst hd hv;rw[e1]at q1;cases q1;simp only[aA];exact⟨(b,cells.length),by simp[Gh.lZ],q2⟩
         ·rename_i hd;subst hv;simp only[aA];exact⟨b',by simp only[Gh.lZ];rw[if_neg hd];exact q1,q2⟩
       · rename_i d' m;simp only[aA]at g2;obtain⟨b',q1,q2⟩:=g2;split at hv
         ·rename_i hd;subst hd;simp only[Option.ite_none_right_eq_some,Option.some.injEq]at hv;obtain⟨hm,rfl⟩:=hv;rw[e1]at q1;cases q1;simp only[aA];exact⟨(b,cells.length),0,by simp[Gh.lZ],q2,hm⟩
         ·rename_i hd;simp only[Option.some.injEq]at hv;subst hv;simp only[aA];exact⟨b',by simp only[Gh.lZ];rw[if_neg hd];exact q1,q2⟩
       ·simp only[Option.ite_none_right_eq_some,Option.some.injEq]at hv;exact aV hv.1 hv.2.symm
     · have hi:=h.inv;refine⟨hi.known,?_,?_,?_,?_,?_,?_,?_,?_,hi.hU hevo⟩
       · intro b' o v hk;rcases hi.bh b' o v hk with hr|⟨τ,hr⟩
         ·exact .inl (hrole _ _ hr (by simp))
         ·exact .inr ⟨τ,hrole _ _ hr (by simp)⟩
       ·intro b' hb';exact hrole _ _ (hi.fresh b' hb') (by simp)
       · intro d' cs' hd';rw[nj]at hd';split at hd'
         ·cases hd'
         ·rename_i hdd;obtain⟨b',f1,⟨f2,c',t',f3,f4⟩,f5⟩:=hi.cG d' cs' hd';exact⟨b',by simp only[Gh.lZ];rw[if_neg hdd];exact f1,⟨hrole _ _ f2 (by simpa using hdd),c',t',f3,p8 hsm f5 f4⟩,f5⟩
       · intro d' b' hd';simp only[Gh.lZ]at hd';split at hd'
         ·cases hd'
         ·rename_i hdd;rw[nj,if_neg hdd];exact hi.gE d' b' hd'
       · intro s' cs' hs';rw[List.getElem?_append]at hs';split at hs'
         ·rename_i hlt;obtain⟨b',f1,⟨f2,o,f3,f4⟩,f5,f6⟩:=hi.cR s' cs' hs';refine⟨b',hevo.sm _ _ f1,⟨hrole _ _ f2 (by simp),o,f3,f4.to (bm.le_refl G.K) (fun _ e=>e) (fun vs r=>p8 hsm (gf f5) r)⟩,f5,f6⟩
         · rename_i hlt
           have hs0:s'=st.sh.length:=by
             have:=(List.getElem?_eq_some_iff.1 hs').1;simp at this;omega
           subst hs0;simp at hs';subst hs';refine⟨(b,cells.length),by simp[Gh.lZ],⟨by simp[Gh.lZ],_,e3,?_⟩,hlf,hrf⟩;have:=Holds.full (t:=t) (p8 (d:=d) (b:=b) (n:=cells.length) hsm (gf hlf) e4)
           rwa [hcl]at this
       · intro s' b' hs';simp only[Gh.lZ]at hs';simp only[List.length_append,List.length_cons,List.length_nil];split at hs'
         ·omega
         ·have:=hi.eo s' b' hs';omega
       ·intro τ n hn;obtain⟨t',f1,f2,f3⟩:=hi.cT τ n hn;refine⟨t',f1,f2,f3.cap,f3.zero,fun hsp=>?_⟩;obtain⟨b',o,c',ty,q1,q2,q3⟩:=f3.spare hsp;exact⟨b',o,c',ty,q1,hrole _ _ q2 (by simp),q3⟩
       ·exact hi.eI
   ·exact⟨G,h,bu.refl G w⟩
 ·exact⟨G,h,bu.refl G w⟩
theorem oq{N:Nat}:∀{ps:List (Nat×Nat×Bool)} {st:St} {G:Gh} {a:Act} {w:World},fM (num ns) n0 N G st a w→∃G',fM (num ns) n0 N G' (w6 ps st) a w∧bu G w G' w
 |[],st,G,a,w,h=>⟨G,h,bu.refl G w⟩
 |(d,sz,ag)::r,st,G,a,w,h=>by
   obtain⟨G1,h1,e1⟩:=EK (d:=d) (sz:=sz) (ag:=ag) h;obtain⟨G2,h2,e2⟩:=oq (ps:=r) h1;exact⟨G2,h2,e1.trans e2⟩
theorem np{b b':Nat}:∀{ts:List Nat} {env:List (Nat×AV)} {t:Nat} {x:AV},look (nH b b' ts env) t=some x→look env t=some x∨∃z n ag,look env t=some (.aT b z n ag)∧x=.aT b' z n ag
 |[],env,t,x,h=>.inl h
 |u::r,env,t,x,h=>by
   simp only[nH]at h;split at h
   · rename_i s z n ag hu;split at h
     · rename_i hs;subst hs;rcases np h with h1|⟨z',n',ag',h1,h2⟩
       · by_cases hut:u=t
         ·subst hut;rw[bG]at h1;cases h1;exact .inr ⟨z,n,ag,hu,rfl⟩
         ·rw[bw _ _ _ _ hut]at h1;exact .inl h1
       · by_cases hut:u=t
         ·subst hut;rw[bG]at h1;cases h1;exact .inr ⟨z,n,ag,hu,h2⟩
         ·rw[bw _ _ _ _ hut]at h1;exact .inr ⟨z',n',ag',h1,h2⟩
     ·exact np h
   ·exact np h
theorem EL{N:Nat}{ts:List Nat}{st:St}{G:Gh}{a:Act}{w:World}(h:fM (num ns) n0 N G st a w):∃G',fM (num ns) n0 N G' (GB ts st) a w∧bu G w G' w:=by
 unfold GB;split
 ·exact⟨G,h,bu.refl G w⟩
 · rename_i t r;split
   · rename_i b z n ag hb;split
     · rename_i cells hcs;split
       · obtain⟨blk,e1,_⟩:=h.inv.cR b cells hcs;obtain⟨g1,g2,g3⟩:=h.inv.ix hcs e1;refine⟨_,⟨⟨h.env.size,fun t' x hx=>?_⟩,g1,h.marks.uQ g3 rfl⟩,g3⟩;rcases np hx with h1|⟨z',n',ag',h1,rfl⟩
         ·obtain⟨v,q1,q2⟩:=h.env.env t' x h1;exact⟨v,q1,q2.mono g2⟩
         ·obtain⟨v,q1,q2⟩:=h.env.env t' _ h1;refine⟨v,q1,?_⟩;simp only[aA]at q2⊢;obtain⟨b',cap,f1,f2,f3⟩:=q2;rw[e1]at f1;cases f1;exact⟨blk,cap,by simp[Gh.ix],f2,f3⟩
       ·exact⟨G,h,bu.refl G w⟩
     ·exact⟨G,h,bu.refl G w⟩
   ·exact⟨G,h,bu.refl G w⟩
theorem Bl:∀{ks:List Nat} {sh:Sh} {b:Nat},b∉ks→(kill sh ks)[b]?=sh[b]?
 |[],_,_,_=>rfl
 |k::ks,sh,b,h=>by
   simp only[List.mem_cons,not_or]at h;have hk:kill sh (k::ks)=kill (sh.set k none) ks:=rfl;rw[hk,Bl h.2,List.getElem?_set,if_neg (fun e=>h.1 e.symm)]
theorem ib{N:Nat}:∀{ts:List Nat} {st:St} {G:Gh} {a:Act} {w:World},fM (num ns) n0 N G st a w→∃G',fM (num ns) n0 N G' (jK ts st) a w∧bu G w G' w
 |[],st,G,a,w,h=>⟨G,h,bu.refl G w⟩
 |t::r,st,G,a,w,h=>by
   simp only[jK];split
   · rename_i b z n ag hb;split
     · rename_i cells hcs;split
       · rename_i hok;obtain⟨hmb,hself⟩:=hok;split
         · rename_i ps hps;obtain⟨G1,k1,k2,k3,k4,k5⟩:=Inv.kill ([.agg cells].flatMap ei) h.inv;obtain⟨blk,e1,e2,e3,e4⟩:=h.inv.cR b cells hcs;obtain⟨hr,c,ty,vs,suf,hh,hcz,hsp,hrel⟩:=e2.cells hmb
           have hnb:b∉[AV.agg cells].flatMap ei:=by
             have:¬(ei (.agg cells)).contains b=true:=by rw[hself];simp
             simpa using this
           have hb1:(c_ st.sh [.agg cells])[b]?=some (some cells):=by
             show (kill st.sh ([AV.agg cells].flatMap ei))[b]?=_;rw[Bl hnb];exact hcs
           obtain⟨blk',f1,f2,f3,f4⟩:=k1.cR b cells hb1
           have hblk:blk'=blk:=by
             have:=k2.sm _ _ e1;rw[f1]at this;simpa using this
           subst hblk;have hrl:dd G1.K ps vs:=lr k2 k4 h.inv.sV (fun s hs=>by simpa using hs) hps hrel
           have hlf:(ps.map AV.pv).all cI=true:=by
             rw[List.all_eq_true];intro x hx;rw[List.mem_map]at hx;obtain⟨p,hp,rfl⟩:=hx;have:=kF hrl p hp;cases p<;>first|rfl|simp[gW]at this
           have h1:fM (num ns) n0 N G1 { st with sh:=(c_ st.sh [.agg cells]).set b (some (ps.map .pv)) } a w:=by
             refine⟨⟨h.env.size,fun t' x hx=>?_⟩,?_,h.marks.uQ k3 rfl⟩
             ·obtain⟨u',g1,g2⟩:=h.env.env t' x hx;exact⟨u',g1,g2.mono k2⟩
             · exact { k1 with
                 cR:=fun s' cs' hs'=>by
                   rw[List.getElem?_set]at hs';split at hs'
                   · rename_i he;subst he;split at hs'
                     · cases hs'
                       exact⟨blk',f1,⟨f2.role,_,hh,.inl ⟨c,ty,vs,suf,rfl,hcz,hsp,iv hrl⟩⟩,hlf,xl _ _⟩
                     ·cases hs'
                   ·exact k1.cR s' cs' hs'
                 eo:=fun s' b' hs'=>by
                   have:=k1.eo s' b' hs';simpa using this }
           obtain⟨G2,h2,he⟩:=ib (ts:=r) h1;exact⟨G2,h2,k3.trans he⟩
         ·exact ib h
       ·exact ib h
     ·exact ib h
   ·exact ib h
theorem wm{α β:Type}{f:α→Option β}:∀{l:List α} {r:List β} (k:Nat),cC f l=some r→cC f (l.take k)=some (r.take k)∧cC f (l.drop k)=some (r.drop k)
 |l,r,0,h=>by simp[cC,h]
 |[],r,k+1,h=>by simp[cC]at h;subst h;simp[cC]
 |x::l,r,k+1,h=>by
   simp only[cC]at h;split at h
   ·rename_i y ys h1 h2;cases h;obtain⟨g1,g2⟩:=wm k h2;simp only[List.take_succ_cons,List.drop_succ_cons,cC,h1,g1];exact⟨trivial,g2⟩
   ·cases h
theorem yd(hB:gJ P ns){orc:eH}(horc:iA P ns orc){A:kD}{N id k:Nat}{q:Nat×List Nat×List Nat}{ops:Array Oper}{as:List dN}(hc:cC (eX P ns A N ops) ops.toList=some as){live:List Nat}{st st':St}{e:aU}{G:Gh}{a:Act}{w:World}
   (hs:fM (num ns) n0 N G st a w) (hev:cP orc k (Cd (some q) as live) st=some (e,st')) {Q:Exit→Act→World→Prop}
   (hq:∀G' a' w',fM (num ns) n0 N G' st' a' w'→bu G w G' w'→Q (iM e) a' w'):(Code.region id ops false).wpIn (rC ro) 0 P Q a w:=by
 obtain⟨j,l,ts⟩:=q;simp only[Cd,cP]at hev;obtain⟨g1,g2⟩:=wm j hc;cases h1:bt orc (as.take j) st with
 |none=>rw[h1]at hev;simp at hev
 |some st1=>
   rw[h1]at hev;simp only at hev;cases h2:bt orc (as.drop j) (GB ts (Go.Ab.restrict l st1)) with
   |none=>rw[h2]at hev;simp at hev
   |some st2=>
     rw[h2]at hev;simp only[Option.some.injEq,Prod.mk.injEq]at hev;obtain⟨rfl,rfl⟩:=hev;refine wpIn_region_list ?_;rw[←List.take_append_drop j ops.toList];refine e8 hB horc g1 hs h1 fun G1 a1 w1 hs1 he1 _ _=>?_;obtain⟨G2,hs2,he2⟩:=EL (ts:=ts) (hs1.restrict l)
     have:=e8 (ro:=ro) (n:=0) (rest:=[]) (Q:=Q) hB horc g2 hs2 h2 (fun G3 a3 w3 hs3 he3 _ _=>by
       unfold wpListIn;exact hq (G3.aV live) a3 w3 (hs3.restrict live) (he1.trans ((bu.aV l).trans (he2.trans (he3.trans (bu.aV live))))))
     rwa [List.append_nil]at this
theorem lW{live:List Nat}{env:List (Nat×AV)}:∀{ds:List (Nat×Nat)},fH (bB live env live) ds=true→fH env ds=true
 |[],_=>rfl
 |(a,b)::r,h=>by
   simp only[fH,Bool.and_eq_true]at h⊢;refine⟨?_,lW h.2⟩;obtain⟨b1,o1,b2,o2,h1,h2,hne⟩:=vR h.1;rw[(dC h1).1,(dC h2).1];simpa[apart] using hne
theorem tI{orc:eH}{k:Nat}{as:List dN}{live:List Nat}{ds:Option (List (Nat×Nat))}{ps:Option (List (Nat×Nat×Bool))}{st st':St}{e:aU}
   (h:cP orc k (behind ds ps (.oG as live)) st=some (e,st')) :
   ∃st1,bt orc as st=some st1∧e=.normal∧fH st1.env (ds.getD [])=true∧st'=w6 (ps.getD []) (restrict live st1):=by
 have h1:∀e2 st2,cP orc k (match ds with|some ds=>ae.seq (.oG as live) (.N3 ds)|none=>.oG as live) st=some (e2,st2) →
     ∃st1,bt orc as st=some st1∧e2=.normal∧fH st1.env (ds.getD [])=true∧st2=restrict live st1:=by
   intro e2 st2 h;cases ds with
   |none=>
     simp only[cP]at h;split at h
     ·rename_i st1 h1;simp at h;obtain⟨rfl,rfl⟩:=h;exact⟨st1,h1,rfl,rfl,rfl⟩
     ·simp at h
   |some ds=>
     simp only[cP]at h;cases h1:bt orc as st with
     |none=>rw[h1]at h;simp at h
     |some st1=>
       rw[h1]at h;simp only[Option.ite_none_right_eq_some,Option.some.injEq,Prod.mk.injEq]at h;obtain⟨h2,rfl,rfl⟩:=h;exact⟨st1,rfl,rfl,lW h2,rfl⟩
 unfold behind at h;cases ps with
 |none=>
   obtain⟨st1,g1,g2,g3,g4⟩:=h1 e st' h;exact⟨st1,g1,g2,g3,g4⟩
 |some ps=>
   simp only[cP]at h;split at h
   ·rename_i st2 h2;simp at h;obtain⟨st1,g1,g2,g3,rfl⟩:=h1 _ _ h2;exact⟨st1,g1,h.1.symm,g3,h.2.symm⟩
   ·rename_i r hr;obtain⟨st1,g1,rfl,g3,g4⟩:=h1 e st' h;exact absurd h (hr st')
def rT(P:Program)(ns:Names):Prop:=∀gb sz ag,look ns.bk gb=some (sz,ag)→∀f,ns.of f=some gb→Nonempty (yc P ns f sz ag)
theorem gM(hm:P.follows .mixedOrders=true)(hB:gJ P ns){orc:eH}(horc:iA P ns orc)(hBk:rT P ns){A:kD}{N k:Nat}:∀{c:Code} {ac:ae},eN P ns A N c=some ac →
   ∀{n0:Nat} {ro:Option Nat},(ro=none∨ac.en=true)→∀{st st':St} {e:aU} {G:Gh} {a:Act} {w:World} {Q:Exit→Act→World→Prop},cP orc k ac st=some (e,st')→fM (num ns) n0 N G st a w →
     (∀G' a' w',fM (num ns) n0 N G' st' a' w'→bu G w G' w'→Q (iM e) a' w')→c.wpIn (rC ro) 0 P Q a w
 | .skip,ac,hc,n0,ro,hro,st,st',e,G,a,w,Q,hev,hs,hq=>by
   simp[eN]at hc;subst hc;simp[cP]at hev;obtain⟨rfl,rfl⟩:=hev;exact wpIn_skip (hq G a w hs (bu.refl G w))
 | .region id ops draw,ac,hc,n0,ro,hro,st,st',e,G,a,w,Q,hev,hs,hq=>by
   simp only[eN]at hc;split at hc
   · rename_i as has
     have key:∀o ds ps live,ac=jO o (behind ds ps (.oG as live))→(draw=true→w8 (ds.getD []) ops.toList as=true)→(Code.region id ops draw).wpIn (rC ro) 0 P Q a w:=by
       rintro o ds ps live rfl hd
       have main:∀{st:St} {G1:Gh},cP orc k (behind ds ps (.oG as live)) st=some (e,st')→fM (num ns) n0 N G1 st a w→bu G w G1 w→(Code.region id ops draw).wpIn (rC ro) 0 P Q a w:=by
         intro st G1 hev hs he1;obtain⟨st1,h1,rfl,h3,rfl⟩:=tI hev;refine vU hm hB horc has hd hs h1 h3 fun G' a' w' hs' he'=>?_;obtain⟨G2,h4,h5⟩:=oq (ps:=ps.getD []) (hs'.restrict live);exact hq G2 a' w' h4 (he1.trans (he'.trans ((bu.aV live).trans h5)))
       cases o with
       |none=>exact main hev hs (bu.refl G w)
       |some ts=>
         simp only[jO,cP]at hev;obtain⟨G2,h2,he2⟩:=jB (ts:=ts) hs;exact main hev h2 he2
     have ahead:∀o1 o2 c,ac=rO o1 (jO o2 c)→(∀{st:St} {G1:Gh},cP orc k c st=some (e,st')→fM (num ns) n0 N G1 st a w→bu G w G1 w→(Code.region id ops draw).wpIn (rC ro) 0 P Q a w)→(Code.region id ops draw).wpIn (rC ro) 0 P Q a w:=by
       rintro o1 o2 c rfl hm
       have h2:∀{st:St} {G1:Gh},cP orc k (jO o2 c) st=some (e,st')→fM (num ns) n0 N G1 st a w→bu G w G1 w→(Code.region id ops draw).wpIn (rC ro) 0 P Q a w:=by
         intro st G1 hev hs he1;cases o2 with
         |none=>exact hm hev hs he1
         |some ts=>
           simp only[jO,cP]at hev;obtain⟨G2,h2,he2⟩:=jB (ts:=ts) hs;exact hm hev h2 (he1.trans he2)
       cases o1 with
       |none=>exact h2 hev hs (bu.refl G w)
       |some ts=>
         simp only[rO,cP]at hev;obtain⟨G2,h3,he2⟩:=ib (ts:=ts) hs;exact h2 hev h3 he2
     split at hc
     · rename_i hdr;split at hc
       ·rename_i hok;simp at hc;exact key _ _ _ _ hc.symm (fun _=>hok)
       ·simp at hc
     · rename_i hdr;have hdr':draw=false:=by simpa using hdr
       subst hdr';split at hc
       ·rename_i q hq';simp only[Option.some.injEq]at hc;exact ahead _ _ _ hc.symm fun hev hs he1=>yd hB horc has hs hev fun G' a' w' h1 h2=>hq G' a' w' h1 (he1.trans h2)
       ·simp only[Option.some.injEq]at hc;refine ahead _ _ _ hc.symm fun hev hs he1=>?_;obtain⟨st1,h1,rfl,h3,rfl⟩:=tI hev;refine vU hm hB horc has (fun h=>absurd h hdr) hs h1 h3 fun G' a' w' hs' he'=>?_;obtain⟨G2,h4,h5⟩:=oq (ps:=(look A.lZ id).getD []) (hs'.restrict ((look A.live id).getD []));exact hq G2 a' w' h4 (he1.trans (he'.trans ((bu.aV _).trans h5)))
   ·simp at hc
 | .seq x y,ac,hc,n0,ro,hro,st,st',e,G,a,w,Q,hev,hs,hq=>by
   simp only[eN]at hc;split at hc
   · rename_i ax ay hx hy;simp at hc;subst hc;have hrx:ro=none∨ax.en=true:=hro.imp_right fun h=>by simp only[ae.en,Bool.and_eq_true]at h;exact h.1
     have hry:ro=none∨ay.en=true:=hro.imp_right fun h=>by simp only[ae.en,Bool.and_eq_true]at h;exact h.2
     simp only[cP]at hev;refine wpIn_seq ?_;split at hev
     ·rename_i st1 h1;refine gM hm hB horc hBk hx hrx h1 hs fun G' a' w' hs' he'=>?_;exact gM hm hB horc hBk hy hry hev hs' fun G'' a'' w'' hs'' he''=>hq G'' a'' w'' hs'' (he'.trans he'')
     · rename_i r hr;refine gM hm hB horc hBk hx hrx hev hs fun G' a' w' hs' he'=>?_;have:=hq G' a' w' hs' he'
       cases e with
       |normal=>exact absurd hev (hr st')
       |ret=>exact this
       |exit id=>exact this
   ·simp at hc
 | .cond c x y,ac,hc,n0,ro,hro,st,st',e,G,a,w,Q,hev,hs,hq=>by
   simp only[eN]at hc;split at hc
   · rename_i acnd ax ay hcn hx hy;simp at hc;subst hc;have hrx:ro=none∨ax.en=true:=hro.imp_right fun h=>by simp only[ae.en,Bool.and_eq_true]at h;exact h.1
     have hry:ro=none∨ay.en=true:=hro.imp_right fun h=>by simp only[ae.en,Bool.and_eq_true]at h;exact h.2
     simp only[cP]at hev;split at hev
     · rename_i t ht;have hrel:=FC hs.env hcn ht;simp only[aA,eZ]at hrel;refine wpIn_cond hrel ?_;cases t with
       |true=>exact gM hm hB horc hBk hx hrx (by simpa using hev) hs hq
       |false=>exact gM hm hB horc hBk hy hry (by simpa using hev) hs hq
     ·simp at hev
   ·simp at hc
 | .block id b,ac,hc,n0,ro,hro,st,st',e,G,a,w,Q,hev,hs,hq=>by
   simp only[eN,Option.map_eq_some_iff]at hc;obtain⟨ab,hb,rfl⟩:=hc;have hrb:ro=none∨ab.en=true:=hro.imp_right fun h=>by simpa only[ae.en] using h
   refine wpIn_block ?_;simp only[cP]at hev;split at hev
   · rename_i id' st1 h1;refine gM hm hB horc hBk hb hrb h1 hs fun G' a' w' hs' he'=>?_;split at hev
     ·rename_i FE;simp at hev;obtain⟨rfl,rfl⟩:=hev;simp only[iM,Exit.inBlock,FE,if_true];exact hq G' a' w' hs' he'
     ·rename_i FE;simp at hev;obtain⟨rfl,rfl⟩:=hev;simp only[iM,Exit.inBlock,FE,if_false];exact hq G' a' w' hs' he'
   · rename_i r hr;refine gM hm hB horc hBk hb hrb hev hs fun G' a' w' hs' he'=>?_;have:=hq G' a' w' hs' he'
     cases e with
     |normal=>exact this
     |ret=>exact this
     |exit id'=>exact absurd hev (hr id' st')
 | .loop b,ac,hc,n0,ro,hro,st,st',e,G,a,w,Q,hev,hs,hq=>by
   simp only[eN,Option.map_eq_some_iff]at hc;obtain⟨ab,hb,rfl⟩:=hc;have hrb:ro=none∨ab.en=true:=hro.imp_right fun h=>by simpa only[ae.en] using h
   simp only[cP]at hev;refine wpIn_loop_rounds k ?_;exact qQ (fun h=>h.head _) (fun h1 h2 h3=>gM hm hB horc hBk hb hrb h1 h2 h3) k hev hs hq
 | .exit id,ac,hc,n0,ro,hro,st,st',e,G,a,w,Q,hev,hs,hq=>by
   simp[eN]at hc;subst hc;simp[cP]at hev;obtain⟨rfl,rfl⟩:=hev;exact wpIn_exit (hq G a w hs (bu.refl G w))
 | .ret,ac,hc,n0,ro,hro,st,st',e,G,a,w,Q,hev,hs,hq=>by
   simp[eN]at hc;subst hc;simp[cP]at hev;obtain⟨rfl,rfl⟩:=hev;exact wpIn_ret (hq G a w hs (bu.refl G w))
 | .rangeFunc f ps x y,ac,hc,n0,ro,hro,st,st',e,G,a,w,Q,hev,hs,hq=>by
   cases f with
   |tmp t=>
     simp only[eN]at hc;split at hc
     · rename_i pi px gb hps Xx;split at hc
       · rename_i sz ag ax ay hbk hx hy;split at hc
         · rename_i hok;obtain⟨nx,ny,hpi,hpx⟩:=hok;simp at hc;subst hc;have hro':ro=none:=hro.resolve_right (by simp[ae.en]);subst hro'
           have hps':ps=#[pi,px]:=by
             have:=congrArg List.toArray hps;simpa using this
           subst hps';simp only[cP]at hev
           exact EG hB horc (hBk gb _ _ hbk)
             (fun h1 h2 h3=>gM hm hB horc hBk hx (.inr nx) h1 h2 h3) (fun h1 h2 h3=>gM hm hB horc hBk hy (.inr ny) h1 h2 h3) hpi hpx hev hs hq
         ·simp at hc
       ·simp at hc
     ·simp at hc
   |_=>simp[eN]at hc
 | .scope _,ac,hc,n0,ro,hro,st,st',e,G,a,w,Q,hev,hs,hq=>by simp[eN]at hc
 | .label _,ac,hc,n0,ro,hro,st,st',e,G,a,w,Q,hev,hs,hq=>by simp[eN]at hc
 | .goto _,ac,hc,n0,ro,hro,st,st',e,G,a,w,Q,hev,hs,hq=>by simp[eN]at hc
 | .refuse _,ac,hc,n0,ro,hro,st,st',e,G,a,w,Q,hev,hs,hq=>by simp[eN]at hc
end
end Go.Ab
namespace Go.Ab
section
variable {P:Program} {ns:Names} {G:Gh} {w:World}
theorem tJ:∀{l:List AV} {i t:Nat} {v:AV},look (ca i l) t=some v→i≤t∧l[t-i]?=some v
 |[],i,t,v,h=>by simp[ca,look]at h
 |x::l,i,t,v,h=>by
   simp only[ca,look]at h;split at h
   ·rename_i e;subst e;cases h;simp
   ·rename_i hne;obtain⟨h1,h2⟩:=tJ h;refine⟨by omega,?_⟩;rw[show t-i=(t-(i+1))+1 from by omega];simpa using h2
theorem L9{N:Nat}{args:List AV}{vs:List Value}(hr:az (num ns) G args vs)(hN:args.length≤N) :
   mj (num ns) G N (ca 0 args) { tmps:=vs.toArray++Array.replicate (N-vs.toArray.size) undef,defers:=[] }:=by
 have hl:=hr.length;refine⟨by simp;omega,fun t x hx=>?_⟩;obtain⟨_,h2⟩:=tJ hx;simp only[Nat.sub_zero]at h2;obtain⟨v,h3,h4⟩:=hr.get h2;refine⟨v,?_,h4⟩;rw[Array.getElem?_append_left (by have:=(List.getElem?_eq_some_iff.1 h3).1;simpa using this)];simpa using h3
theorem qR{n0 N:Nat}{st:St}{a:Act}(hs:fM (num ns) n0 N G st a w){F:ResultVar→Sem Value}(hF1:∀t,F (.tmp t)=pure (a.tmps.getD t undef))(hF2:∀ad t,F (.cell ad t)=(do loadVar t (←asAddr (a.tmps.getD ad undef)))):∀{rvs:List ResultVar} {rs:List pL} {xs:List AV},cC (FB P) rvs=some rs→d9 st rs=some xs →
   ∃vs,(rvs.mapM F).run P w=.ok vs w∧az (num ns) G xs vs
 |[],rs,xs,hc,hx=>by
   simp[cC]at hc;subst hc;simp[d9]at hx;subst hx;exact⟨[],by simp,by simp[az]⟩
 |r::rvs,rs,xs,hc,hx=>by
   simp only[cC]at hc;split at hc
   · rename_i ar ars h1 h2;simp at hc;subst hc;simp only[d9]at hx;split at hx
     · rename_i v vs' g1 g2;simp at hx;subst hx;obtain⟨us,k1,k2⟩:=qR hs hF1 hF2 h2 g2
       have one:∃u,(F r).run P w=.ok u w∧aA (num ns) G v u:=by
         cases r with
         |tmp t=>
           simp[FB]at h1;subst h1;simp only[qk]at g1;obtain⟨u,e1,e2⟩:=hs.env.env t v g1;exact⟨u,by rw[hF1];simp[e1],e2⟩
         |cell ad t=>
           simp only[FB]at h1;split at h1
           · rename_i sz ag hsz hag;simp at h1;subst h1;simp only[qk]at g1;split at g1
             · rename_i d e1;split at g1
               ·rename_i cs e2;simp only[Option.ite_none_right_eq_some]at g1;obtain⟨rfl,g1⟩:=g1;obtain⟨u,f1,f2⟩:=hs.env.env _ _ e1;simp only[aA]at f2;obtain⟨b,hp,rfl⟩:=f2;obtain⟨b',hp',hblk,_⟩:=hs.inv.cG _ _ e2;rw[hp]at hp';cases hp';obtain⟨_,c,ty,hh,hrel⟩:=hblk;obtain⟨u,q1,q2⟩:=iU (w:=w) hsz hag g1 hrel (kj hh);exact⟨u,by rw[hF2];simp[f1,asAddr,q1],q2⟩
               ·cases g1
             · rename_i s e1;split at g1
               · rename_i cs e2;split at g1
                 ·cases g1
                 ·rename_i hm;obtain⟨u,f1,f2⟩:=hs.env.env _ _ e1;simp only[aA]at f2;obtain⟨b,hp,rfl⟩:=f2;obtain⟨b',hp',hblk,_⟩:=hs.inv.cR _ _ e2;rw[hp]at hp';cases hp';obtain⟨_,c,ty,vs,suf,hh,_,hsp,hrel⟩:=hblk.cells (by simpa using hm);obtain⟨u,q1,q2⟩:=iU (w:=w) hsz hag g1 hrel (oK hh hsp);exact⟨u,by rw[hF2];simp[f1,asAddr,q1],q2⟩
               ·cases g1
             ·cases g1
           ·simp at h1
       obtain⟨u,o1,o2⟩:=one;refine⟨u::us,?_,?_⟩
       ·rw[List.mapM_cons];simp only[Sem.run_bind];rw[o1];simp only[Result.andThen_ok];rw[k1];rfl
       ·simp only[az];exact⟨u,us,rfl,o2,k2⟩
     ·simp at hx
   ·simp at hc
theorem ot{G':Gh}{sh:Sh}{ks:List Nat}(hle:G.le G')(hf:ia ns G G' sh ks)(hl:∀(s:Nat) (cells:List AV),sh[s]?=some (some cells)→cells.all a0=true)
   {x:AV} {v:Value} (ha:∀s∈ei x,s∈ks) (h:aA (num ns) G x v):aA (num ns) G' (sI sh x) v:=by
 unfold sI;split
 ·rename_i p hp;simp only[aA];exact sU hle hf hl ha hp h
 ·exact h.mono hle
theorem L_{G':Gh}{sh:Sh}{ks:List Nat}(hle:G.le G')(hf:ia ns G G' sh ks)(hl:∀(s:Nat) (cells:List AV),sh[s]?=some (some cells)→cells.all a0=true)
   {x:AV} {v:Value} (ha:a0 x=true→∀s∈ei x,s∈ks) (h:aA (num ns) G x v):aA (num ns) G' (ru sh x) v:=by
 unfold ru;split
 ·exact h.mono hle
 · split
   ·rename_i hl';exact ot hle hf hl (ha hl') h
   ·exact h.mono hle
theorem wo{G':Gh}{sh:Sh}{ks:List Nat}(hle:G.le G')(hf:ia ns G G' sh ks)(hl:∀(s:Nat) (cells:List AV),sh[s]?=some (some cells)→cells.all a0=true) :
   ∀{cs:List AV} {vs:List Value},(∀s∈ei (.agg cs),s∈ks)→az (num ns) G cs vs→az (num ns) G' (cs.map (ru sh)) vs
 |[],vs,_,h=>by simpa[az] using h
 |c::cs,vs,ha,h=>by
   simp only[az]at h;obtain⟨v,r,e,e1,e2⟩:=h;simp only[List.map_cons,az];refine⟨v,r,e,L_ hle hf hl (fun hb s hs=>ha s ?_) e1,wo hle hf hl (fun s hs=>ha s ?_) e2⟩
   ·simp only[ei,List.flatMap_cons,List.mem_append];left;cases c<;>simp_all[ei,a0]
   ·simp only[ei,List.flatMap_cons,List.mem_append]at hs⊢;exact .inr hs
theorem L'{G':Gh}{sh:Sh}{ks:List Nat}(hle:G.le G')(hf:ia ns G G' sh ks)(hl:∀(s:Nat) (cells:List AV),sh[s]?=some (some cells)→cells.all a0=true)
   {x:AV} {v:Value} (ha:∀s∈ei x,s∈ks) (h:aA (num ns) G x v):aA (num ns) G' (sJ sh x) v:=by
 unfold sJ;split
 ·exact h.mono hle
 ·exact h.mono hle
 ·simp only[aA]at h⊢;obtain⟨vs,e,r⟩:=h;exact⟨vs,e,wo hle hf hl ha r⟩
 ·exact ot hle hf hl ha h
theorem ou{G':Gh}{sh:Sh}{ks:List Nat}{F:Sh→AV→AV}(hF:∀{x:AV} {v:Value},(∀s∈ei x,s∈ks)→aA (num ns) G x v→aA (num ns) G' (F sh x) v) :
   ∀{xs:List AV} {vs:List Value},(∀s∈xs.flatMap ei,s∈ks)→az (num ns) G xs vs→az (num ns) G' (xs.map (F sh)) vs
 |[],vs,_,h=>by simpa[az] using h
 |x::xs,vs,ha,h=>by
   simp only[az]at h;obtain⟨v,r,e,e1,e2⟩:=h;simp only[List.flatMap_cons,List.mem_append]at ha;simp only[List.map_cons,az];exact⟨v,r,e,hF (fun s hs=>ha s (.inl hs)) e1,ou hF (fun s hs=>ha s (.inr hs)) e2⟩
theorem EM{G':Gh}{sh:Sh}{ks:List Nat}{aV kst:Bool}(hle:G.le G')(hf:ia ns G G' sh ks)(hl:∀(s:Nat) (cells:List AV),sh[s]?=some (some cells)→cells.all a0=true)
   {xs:List AV} {vs:List Value} (ha:∀s∈xs.flatMap ei,s∈ks) (h:az (num ns) G xs vs):az (num ns) G' (cA aV kst sh xs) vs:=by
 unfold cA;split
 · split
   ·exact az.mono hle h
   ·exact ou (L' hle hf hl) ha h
 ·exact ou (ot hle hf hl) ha h
theorem EN{xs:List AV}{vs:List Value}(h:az (num ns) G xs vs):da (num ns) G xs (if h:vs.toArray.size=1 then vs.toArray[0] else .tuple vs.toArray):=by
 unfold da;split
 ·rename_i r;simp only[az]at h;obtain⟨v,r',e,e1,e2⟩:=h;subst e2;subst e;simpa using e1
 · rename_i hn;have hl:=h.length;rw[dif_neg]
   ·exact⟨vs,rfl,h⟩
   · intro e;simp at e;rw[e]at hl;cases xs with
     |nil=>simp at hl
     |cons x xs=>
       cases xs with
       |nil=>exact hn x rfl
       |cons _ _=>simp at hl
end
mutual
theorem tK{ρ:bK}{G G':Gh}{n:Nat}(hK:G.K.le G'.K)(hs:∀s b,s<n→G.sm s=some b→G'.sm s=some b):∀{x:AV} {v:Value},bM x=true→aI n x=true→aA ρ G x v→aA ρ G' x v
 | .pv p,_,_,_,h=>by simp only[aA]at h⊢;exact h.mono hK
 | .aM s o,_,_,hr,h=>by simp[aI]at hr;simp only[aA]at h⊢;obtain⟨b,e,r⟩:=h;exact⟨b,hs _ _ hr e,r⟩
 | .aT s _ n _,_,_,hr,h=>by simp[aI]at hr;simp only[aA]at h⊢;obtain⟨b,c,e,r⟩:=h;exact⟨b,c,hs _ _ hr e,r⟩
 | .fw,_,_,_,h=>by simpa only[aA] using h
 | .fR s,_,_,hr,h=>by simp[aI]at hr;simp only[aA]at h⊢;obtain⟨b,e,r⟩:=h;exact⟨b,hs _ _ hr e,r⟩
 | .rb ..,_,hp,_,_=>by simp[bM]at hp
 | .dB _,_,_,_,h=>by simp only[aA]at h
 | .fn g cap,_,hp,hr,h=>by
   simp only[bM]at hp;simp only[aI]at hr;simp only[aA]at h⊢;obtain⟨f,vs,e1,e2,r⟩:=h;exact⟨f,vs,e1,e2,p9 hK hs hp hr r⟩
 | .un,_,hp,_,_=>by simp[bM]at hp
 | .cY _,_,_,_,h=>by simp only[aA]at h⊢;obtain⟨b,l,e,r⟩:=h;exact⟨b,l,e,r.mono hK⟩
 | .own _ _,_,hp,_,_=>by simp[bM]at hp
 | .agg _,_,hp,hr,h=>by
   simp only[bM]at hp;simp only[aI]at hr;simp only[aA]at h⊢;obtain⟨vs,e,r⟩:=h;exact⟨vs,e,p9 hK hs hp hr r⟩
 | .pJ _,_,hp,_,_=>by simp[bM]at hp
 | .au _ _,_,hp,_,_=>by simp[bM]at hp
 | .dM _,_,hp,_,_=>by simp[bM]at hp
theorem p9{ρ:bK}{G G':Gh}{n:Nat}(hK:G.K.le G'.K)(hs:∀s b,s<n→G.sm s=some b→G'.sm s=some b):∀{xs:List AV} {vs:List Value},bM.iu xs=true→aI.cD n xs=true→az ρ G xs vs→az ρ G' xs vs
 |[],_,_,_,h=>by simpa only[az] using h
 |x::xs,_,hp,hr,h=>by
   simp only[bM.iu,Bool.and_eq_true]at hp;simp only[aI.cD,Bool.and_eq_true]at hr;simp only[az]at h⊢;obtain⟨v,r,e,e1,e2⟩:=h;exact⟨v,r,e,tK hK hs hp.1 hr.1 e1,p9 hK hs hp.2 hr.2 e2⟩
end
section
variable {P:Program} {ns:Names} {G:Gh} {w:World}
theorem tL{ρ:bK}{G':Gh}{n:Nat}(hK:G.K.le G'.K)(hs:∀s b,s<n→G.sm s=some b→G'.sm s=some b)(ht:∀τ t,G.tk τ=some t→G'.tk τ=some t):∀{xs:List AV} {vs:List Value},eU xs=true→aI.cD n xs=true→az ρ G xs vs→az ρ G' xs vs
 |[],_,_,_,h=>by simpa only[az] using h
 |x::xs,_,hp,hr,h=>by
   simp only[eU,Bool.and_eq_true]at hp;simp only[aI.cD,Bool.and_eq_true]at hr;simp only[az]at h⊢;obtain⟨v,r,e,e1,e2⟩:=h;refine⟨v,r,e,?_,tL hK hs ht hp.2 hr.2 e2⟩;cases x with
   |own l τ=>
     simp only[aA]at e1⊢;obtain⟨t,a1,a2,a3,a4⟩:=e1;exact⟨t,ht _ _ a1,a2,a3.mono hK,fun hl=>⟨(a4 hl).1,N4 (a4 hl).2 fun⟨b,o,e,r⟩=>⟨b,o,e,Row.mono hK _ _ _ _ r⟩⟩⟩
   |_=>exact tK hK hs (show bM _=true from hp.1) hr.1 e1
theorem Ju{ρ:bK}{G':Gh}{n:Nat}(hK:G.K.le G'.K)(hs:∀s b,s<n→G.sm s=some b→G'.sm s=some b)(ht:∀τ t,G.tk τ=some t→G'.tk τ=some t){x:AV}{v:Value}(hp:bE x=true)(hr:aI n x=true)(h:aA ρ G x v):aA ρ G' x v:=by
 cases x with
 |own l τ=>
   simp only[aA]at h⊢;obtain⟨t,e1,e2,e3,e4⟩:=h;exact⟨t,ht _ _ e1,e2,e3.mono hK,fun hl=>⟨(e4 hl).1,N4 (e4 hl).2 fun⟨b,o,e,r⟩=>⟨b,o,e,Row.mono hK _ _ _ _ r⟩⟩⟩
 |agg cs=>
   simp only[aI]at hr;simp only[aA]at h⊢;obtain⟨vs,e,r⟩:=h;exact⟨vs,e,tL hK hs ht (by simpa[bE] using hp) hr r⟩
 |_=>exact tK hK hs (show bM _=true from hp) hr h
theorem oz{ρ:bK}{G':Gh}{n:Nat}(hK:G.K.le G'.K)(hs:∀s b,s<n→G.sm s=some b→G'.sm s=some b)(ht:∀τ t,G.tk τ=some t→G'.tk τ=some t):∀{xs:List AV} {vs:List Value},xs.all bE=true→xs.all (aI n)=true→az ρ G xs vs→az ρ G' xs vs
 |[],_,_,_,h=>by simpa only[az] using h
 |x::xs,_,hp,hr,h=>by
   simp only[List.all_cons,Bool.and_eq_true]at hp hr;simp only[az]at h⊢;obtain⟨v,r,e,e1,e2⟩:=h;exact⟨v,r,e,Ju hK hs ht hp.1 hr.1 e1,oz hK hs ht hp.2 hr.2 e2⟩
def Gh.bare(G:Gh):Gh:={ G with pm:=fun _=>none,role:=fun b=>match G.role b with| .l0 _=>.dH|r=>r }
theorem Inv.bare{mem:List (Nat×List AV)}{sh:Sh}{ts:aG}(hi:Inv (num ns) G w mem sh ts):Inv (num ns) G.bare w [] sh ts where
 known:=hi.known
 bh:=fun b o v hk=>by
   rcases hi.bh b o v hk with h|⟨τ,h⟩
   ·exact .inl (by simp[Gh.bare,h])
   ·exact .inr ⟨τ,by simp[Gh.bare,h]⟩
 fresh:=fun b hb=>by simp[Gh.bare,hi.fresh b hb]
 cG:=fun d cells h=>by simp[look]at h
 gE:=fun d b h=>by simp[Gh.bare]at h
 cR:=fun s cells hs=>by
   obtain⟨b,e1,e2,e3,e4⟩:=hi.cR s cells hs;obtain⟨hr,o,hh,hrel⟩:=e2;exact⟨b,e1,⟨by simp[Gh.bare,hr],o,hh,hrel.to (fun _ _ _ h=>h) (fun _ e=>e) (fun _ r=>jy (G:=G) (G':=G.bare) (bm.le_refl _) (fun _ _ h=>h) (fun _ _ h=>h) (iZ e3) r)⟩,e3,e4⟩
 eo:=hi.eo
 cT:=fun τ n h=>by
   obtain⟨t,e1,e2,e3⟩:=hi.cT τ n h;refine⟨t,e1,e2,e3.cap,e3.zero,fun hlt=>?_⟩;obtain⟨b,o,c,ty,f1,f2,f3,f4,f5⟩:=e3.spare hlt;exact⟨b,o,c,ty,f1,by simp[Gh.bare,f2],f3,f4,f5⟩
 eI:=hi.eI
 l5:=fun b c hb=>⟨by simp[Gh.bare,(hi.l5 b c hb).1],(hi.l5 b c hb).2⟩
def Gh.nO(G:Gh)(n:Nat):Gh:={ G with sm:=fun s=>if s<n then G.sm s else none }
theorem Inv.nO{sh:Sh}{ts:aG}(hi:Inv (num ns) G w [] sh ts)(n:Nat):Inv (num ns) (G.nO n) w [] (sh.take n) ts where
 known:=hi.known
 bh:=hi.bh
 fresh:=hi.fresh
 cG:=fun d cells h=>by simp[look]at h
 gE:=hi.gE
 cR:=fun s cells hs=>by
   rw[List.getElem?_take]at hs;split at hs
   ·rename_i hlt;obtain⟨b,e1,e2,e3,e4⟩:=hi.cR s cells hs;obtain⟨hr,o,hh,hrel⟩:=e2;exact⟨b,by simp[Gh.nO,hlt,e1],⟨hr,o,hh,hrel.to (fun _ _ _ h=>h) (fun _ e=>e) (fun _ r=>oz (G:=G) (G':=G.nO n) (n:=s+1) (bm.le_refl G.K) (fun s' b' hs' h=>by simp only[Gh.nO];rw[if_pos (by omega)];exact h) (fun _ _ h=>h) (iZ e3) e4 r)⟩,e3,e4⟩
   ·simp at hs
 eo:=fun s b h=>by
   simp only[Gh.nO]at h;split at h
   ·have:=hi.eo s b h;simp;omega
   ·simp at h
 cT:=fun τ n h=>by
   obtain⟨t,e1,e2,e3⟩:=hi.cT τ n h;exact⟨t,e1,e2,e3.cap,e3.zero,e3.spare⟩
 eI:=hi.eI
 l5:=hi.l5
theorem Inv.shut{mem:List (Nat×List AV)}{sh:Sh}{aa:aG}{D:Nat}{x:Option (List Deferred)}(hi:Inv (num ns) G w mem sh aa)(hD:w.heap[D]?=some (.deferred x)) :
   Inv (num ns) G (w.putObj D (.deferred none)) mem sh aa:=by
 have hne:∀{b:Nat} {c:Array Value} {t:TypeId},w.heap[b]?=some (.cells c t (0,0))→(w.putObj D (.deferred none)).heap[b]?=some (.cells c t (0,0)):=by
   intro b c t h;rw[World.putObj_heap_other]
   ·exact h
   ·rintro rfl;rw[hD]at h;cases h
 have hsize:(w.putObj D (.deferred none)).heap.size=w.heap.size:=by simp[World.putObj]
 refine { hi with known:=?_,fresh:=?_,cG:=?_,cR:=?_,cT:=?_,l5:=?_ }
 · intro b o v hk;have h:=hi.known b o v hk;rw[←h];have:b≠D:=by rintro rfl;simp[World.cell?,hD]at h
   simp only[World.cell?,World.putObj_heap_other this]
 ·intro b hb;exact hi.fresh b (by omega)
 ·intro k cs hk;obtain⟨b,e1,⟨e2,c,t,e3,e4⟩,e5⟩:=hi.cG k cs hk;exact⟨b,e1,⟨e2,c,t,hne e3,e4⟩,e5⟩
 · intro k cs hk;obtain⟨b,e1,⟨e2,o,e3,e4⟩,e5⟩:=hi.cR k cs hk;refine⟨b,e1,⟨e2,o,?_,e4⟩,e5⟩;rw[World.putObj_heap_other]
   ·exact e3
   · rintro rfl
     rw[hD]at e3;cases e3;rcases e4 with⟨_,_,_,_,h,_⟩|⟨_,_,_,h,_⟩<;>cases h
 ·intro τ n hn;obtain⟨t,e1,e2,e3⟩:=hi.cT τ n hn;refine⟨t,e1,e2,e3.cap,e3.zero,fun hlt=>?_⟩;obtain⟨b,o,c,ty,f1,f2,f3,f4,f5⟩:=e3.spare hlt;exact⟨b,o,c,ty,f1,f2,hne f3,f4,f5⟩
 · intro b c hb;obtain⟨h1,t',z,h2⟩:=hi.l5 b c hb;refine⟨h1,t',z,?_⟩;rw[World.putObj_heap_other]
   ·exact h2
   ·rintro rfl;rw[hD]at h2;cases h2
theorem bu.shut{G':Gh}{w':World}{D:Nat}(he:bu G w G' w')(hD:w.heap.size≤D):bu G w G' (w'.putObj D (.deferred none)):=
 { he with
   size:=by simpa[World.putObj] using he.size
   os:=by simpa[World.putObj] using he.os
   tape:=by simpa[World.putObj] using he.tape
   output:=by simpa[World.putObj] using he.output
   dH:=fun b hb hr=>by
     obtain⟨h1,h2⟩:=he.dH b hb hr;exact⟨h1,by rw[World.putObj_heap_other (by omega)];exact h2⟩ }
theorem qS{fn:Func}{tmps:Array Value}{R:Ending→World→Prop}{mem:List (Nat×List AV)}{sh:Sh}{aa:aG}{G':Gh}:∀(Ds:List Nat) (w':World),Inv (num ns) G' w' mem sh aa→bu G w G' w'→Ds.Nodup →
   (∀D∈Ds,w.heap.size≤D∧w'.heap[D]?=some (.deferred (some []))) →
   (∀w'',Inv (num ns) G' w'' mem sh aa→bu G w G' w''→∃v,(results fn tmps).run P w''=.ok v w''∧R (.returned v) w'') →
   LeavesInM Fence.wide 0 P fn tmps R (Ds.map (fun D=>{ target:=.collected D,args:=#[] })) .returning w'
 |[],w',hi,he,_,_,h=>h w' hi he
 |D::Ds,w',hi,he,hn,hD,h=>by
   obtain⟨h1,h2⟩:=hD D (by simp);refine⟨by simp,.inl ⟨D,_,rfl,run_takeDeferred h2,?_⟩⟩;simp only[List.nodup_cons]at hn;refine qS Ds _ (hi.shut h2) (he.shut h1) hn.2 (fun E hE=>?_) h;obtain⟨g1,g2⟩:=hD E (by simp[hE]);refine⟨g1,?_⟩;rw[World.putObj_heap_other]
   ·exact g2
   ·rintro rfl;exact hn.1 hE
theorem tM(hm:P.follows .mixedOrders=true)(hB:gJ P ns)(hBk:rT P ns){orc:eH}(horc:iA P ns orc){A:kD}{k f:Nat}{aV:Bool}{fn:Func}{af:aC}(hf:P.funcs[f]?=some fn)(hc:ql P ns A fn=some af)
   {args rs:List AV} {vs:List Value} {sh sh':Sh} {ts ts':aG} (hi:Inv (num ns) G w [] sh ts) (hr:az (num ns) G args vs) (hN:args.length≤af.ntmps) (h:cb orc k aV af args sh ts=some (rs,sh',ts')) :
   (Calls P f vs.toArray w fun e w'=>∃v G',e=.returned v∧da (num ns) G' rs v∧Inv (num ns) G' w' [] sh' ts'∧bu G w G' w')∧rs.all bE=true:=by
 unfold ql at hc;split at hc
 · rename_i c ars Bf gA;simp only[Option.ite_none_right_eq_some,Option.map_eq_some_iff]at hc;obtain⟨_,ac,hcc,rfl⟩:=hc;unfold cb at h;split at h
   · rename_i e st hev;simp only[Option.ite_none_right_eq_some]at h;obtain⟨he,h⟩:=h;split at h
     · rename_i xs hxs;simp only[Option.ite_none_right_eq_some]at h;obtain⟨hpass,h⟩:=h;let kst:=A.ks;let shk:Sh:=eL aV kst st.sh xs;let P_:Sh:=if (cA aV kst st.sh xs).all (aI sh.length)=true then shk.take sh.length else shk;have h:some ((cZ st.aa (cA aV kst st.sh xs) P_).1,(cZ st.aa (cA aV kst st.sh xs) P_).2.1,(cZ st.aa (cA aV kst st.sh xs) P_).2.2.2)=some (rs,sh',ts'):=h;simp only[Option.some.injEq,Prod.mk.injEq]at h;obtain⟨WS,hsh,hts⟩:=h;have hpass':rs.all bE=true:=by rw[←WS];exact iB hpass
       refine⟨?_,hpass'⟩;refine callsIn_wide (n:=0).1 (callsIn_of_wp_marks hf Bf trivial ?_ rfl);have hs0:fM (num ns) w.heap.size fn.ntmps G { env:=ca 0 args,mem:=[],sh,aa:=ts } { tmps:=vs.toArray++Array.replicate (fn.ntmps-vs.toArray.size) undef,defers:=[] } w:=⟨L9 hr hN,hi,Nat.le_refl _,[],rfl,by simp,by simp⟩;refine gM (ro:=none) hm hB horc hBk hcc (.inl rfl) hev hs0 fun G' a' w1 hs1 hevo1=>?_
       have key:LeavesInM Fence.wide 0 P fn a'.tmps (fun e w'=>∃v G',e=.returned v∧da (num ns) G' rs v∧Inv (num ns) G' w' [] sh' ts'∧bu G w G' w') a'.defers .returning w1:=by
         obtain⟨m0,Ds,m1,m2,m3⟩:=hs1.marks;rw[m1];refine qS Ds w1 hs1.inv hevo1 m2 (fun D hD=>⟨(m3 D hD).1,(m3 D hD).2.2.2⟩) ?_;intro w' hi' hevo;have hs':fM (num ns) w.heap.size fn.ntmps G' st { tmps:=a'.tmps,defers:=[] } w':=⟨⟨hs1.env.size,hs1.env.env⟩,hi',hevo.size,[],rfl,by simp,by simp⟩;obtain⟨us,u1,u2⟩:=qR (P:=P) hs' (F:=fun| .tmp t=>pure (a'.tmps.getD t undef)| .cell ad t=>do loadVar t (←asAddr (a'.tmps.getD ad undef))) (fun _=>rfl) (fun _ _=>rfl) gA hxs;refine⟨(if h:us.toArray.size=1 then us.toArray[0] else .tuple us.toArray),?_,?_⟩
         · unfold results;rw[Array.mapM_eq_mapM_toList];simp only[Sem.run_bind,Sem.run_map]
           erw [u1]
           rfl
         · obtain⟨G1,k1,k2,k3,hout⟩:∃G1,Inv (num ns) G1 w' st.mem shk st.aa∧G'.le G1∧bu G' w' G1 w'∧az (num ns) G1 (cA aV kst st.sh xs) us:=by
             by_cases hkk:(aV && kst)=true
             · refine⟨G',?_,Gh.le_refl _,bu.refl _ _,?_⟩
               · have:shk=st.sh:=by simp only[shk,eL,hkk,if_true]
                 rw[this];exact hs'.inv
               · have:cA aV kst st.sh xs=xs:=by
                   simp only[Bool.and_eq_true]at hkk;simp only[cA,hkk.1,hkk.2,if_true]
                 rw[this];exact u2
             · obtain⟨G1,k1,k2,k3,k4,k5⟩:=Inv.kill (xs.flatMap ei) hs'.inv;refine⟨G1,?_,k2,k3,EM (aV:=aV) k2 k4 hs'.inv.sV (fun s hs=>hs) u2⟩
               have:shk=c_ st.sh xs:=by
                 simp only[shk,eL];rw[if_neg hkk]
               rw[this];exact k1
           have hbare:=jy (G:=G1) (G':=G1.bare) (bm.le_refl _) (fun _ _ h=>h) (fun _ _ h=>h) hpass hout;have k1b:=k1.bare;have hevo0:=hevo.trans k3
           obtain⟨G2,i2,r2,e2⟩:∃G2,Inv (num ns) G2 w' [] P_ st.aa∧az (num ns) G2 (cA aV kst st.sh xs) us∧bu G w G2 w':=by
             have bareEvo:bu G w G1.bare w':={
               size:=hevo0.size,os:=hevo0.os,tape:=hevo0.tape,output:=hevo0.output,K:=hevo0.K,sm:=hevo0.sm,
               dH:=fun b hb hr=>⟨by simp[Gh.bare,(hevo0.dH b hb hr).1],(hevo0.dH b hb hr).2⟩
               iK:=fun b τ hb hr=>by
                 rcases hevo0.iK b τ hb hr with h|⟨τ',h⟩
                 ·exact .inl (by simp[Gh.bare,h])
                 ·exact .inr ⟨τ',by simp[Gh.bare,h]⟩
               gF:=hevo0.gF }
             by_cases href:(cA aV kst st.sh xs).all (aI sh.length)=true
             · have hshd:P_=shk.take sh.length:=if_pos href;rw[hshd];refine⟨G1.bare.nO sh.length,k1b.nO sh.length,oz (G:=G1.bare) (G':=G1.bare.nO sh.length) (n:=sh.length) (bm.le_refl _) (fun s b hs h=>by simp only[Gh.nO];rw[if_pos hs];exact h) (fun _ _ h=>h) hpass href hbare,?_⟩
               exact { size:=bareEvo.size,os:=bareEvo.os,tape:=bareEvo.tape,output:=bareEvo.output,K:=bareEvo.K,
                       sm:=fun s b hsb=>by
                         have:=hi.eo s b hsb;show (if s<sh.length then G1.sm s else none)=some b;rw[if_pos this];exact bareEvo.sm s b hsb
                       dH:=bareEvo.dH,iK:=bareEvo.iK,gF:=bareEvo.gF }
             ·have hshd:P_=shk:=if_neg href;rw[hshd];exact⟨G1.bare,k1b,hbare,bareEvo⟩
           obtain⟨m,tks,hNS,hto,hrel⟩:=i2.Kl hpass r2;rw[WS]at hrel;rw[hsh,hts]at hto;exact⟨_,G2.to m tks,rfl,EN hrel,hto,e2.to m tks⟩
       cases e with
       |normal=>exact key
       |ret=>exact key
       |exit id=>simp at he
     ·simp at h
   ·simp at h
 ·simp at hc
theorem vj{orc:eH}{k:Nat}{aV:Bool}{af:aC}{args rs:List AV}{sh sh':Sh}{ts ts':aG}(h:cb orc k aV af args sh ts=some (rs,sh',ts')):rs.all bE=true:=by
 unfold cb at h;split at h
 · split at h
   · split at h
     ·simp only[Option.ite_none_right_eq_some]at h;obtain⟨hp,h⟩:=h;have e:=congrArg Prod.fst (Option.some.inj h);dsimp only at e;rw[←e];exact iB hp
     ·simp at h
   ·simp at h
 ·simp at h
structure Impl(P:Program)(ns:Names)(AP:Nat→Option aC):Prop where
 mixed:P.follows .mixedOrders=true
 funcs:∀f g,ns.of f=some g→(∃fn A af,P.funcs[f]?=some fn∧ql P ns A fn=some af∧AP g=some af) ∨
   ((∃fn b,P.funcs[f]?=some fn∧fn.body=some b∧fn.name ≠ "runtime.NumGoroutine") ∧
     (AP g=none∨∃af pf,AP g=some af∧af.rf=some pf∧af.body=.exit 0∧∀orc,iA P ns orc→∀cz rs,pf.f orc.p cz=some rs→zF P ns f cz rs))
 Fz:rT P ns
 Su:∀g sz bytes f,look ns.cl g=some (sz,bytes)→ns.of f=some g→Nonempty (pc P ns f sz bytes)
theorem Impl.Ma{AP:Nat→Option aC}(h:Impl P ns AP):gJ P ns:=by
 intro f g hg;rcases h.funcs f g hg with⟨fn,A,af,h1,h2,_⟩|⟨⟨fn,b,h1,h2,h3⟩,_⟩
 · unfold ql at h2;split at h2
   ·rename_i b rs hb _;simp only[Option.ite_none_right_eq_some]at h2;obtain⟨⟨_,hn⟩,_⟩:=h2;exact⟨fn,b,h1,hb,by simpa using hn⟩
   ·simp at h2
 ·exact⟨fn,b,h1,h2,h3⟩
theorem EO{A:kD}{fn:Func}{af:aC}(h:ql P ns A fn=some af):af.rf=none:=by
 unfold ql at h;split at h
 ·simp only[Option.ite_none_right_eq_some,Option.map_eq_some_iff]at h;obtain⟨_,_,_,rfl⟩:=h;rfl
 ·simp at h
theorem tN:∀{rs:List AV} {ps:List PV},fJ rs=some ps→rs=ps.map .pv
 |[],ps,h=>by simp[fJ]at h;subst h;rfl
 |x::rs,ps,h=>by
   cases x with
   |pv p=>
     simp only[fJ,Option.map_eq_some_iff]at h;obtain⟨qs,h1,rfl⟩:=h;simp[tN h1]
   |_=>simp[fJ]at h
theorem qT:∀{ps:List PV} {vs:List Value},az (num ns) G (ps.map .pv) vs→jL G.K ps vs
 |[],vs,h=>by simp only[List.map_nil,az]at h;exact h
 |p::ps,vs,h=>by
   simp only[List.map_cons,az]at h;obtain⟨v,r,e,e1,e2⟩:=h;simp only[aA]at e1;exact⟨v,r,e,e1,qT e2⟩
theorem Jv{ps:List PV}{v:Value}(h:da (num ns) G (ps.map .pv) v):jv G.K ps v:=by
 unfold jv;split
 ·rename_i p;simp only[List.map_cons,List.map_nil,da,aA]at h;exact h
 · rename_i hn;unfold da at h;split at h
   · rename_i r e;cases ps with
     |nil=>simp at e
     |cons q qs=>
       cases qs with
       |nil=>exact absurd rfl (hn q)
       |cons _ _=>simp at e
   ·obtain⟨vs,e,h⟩:=h;exact⟨vs,e,qT h⟩
theorem wq{AP:Nat→Option aC}(hI:Impl P ns AP)(k:Nat):∀n,iA P ns (run AP k n)
 |0=>⟨fun g f cz rs _ h=>by simp[run]at h,fun g f args ts rs sh sh' ts' _ _ h=>by simp[run]at h,fun g sz by_ f h1 h2=>(hI.Su g sz by_ f h1 h2).elim Bi⟩
 |n+1=>by
   have ih:=wq hI k n;refine⟨fun g f cz rs hg h=>?_,fun g f args ts rs sh sh' ts' hg hp h=>?_,ih.c⟩
   · rcases hI.funcs f g hg with⟨fn,A,af,h1,h2,h3⟩|⟨_,h3|⟨af,pf,h3,h4,_,h5⟩⟩
     · simp only[run,h3,EO h2,Option.ite_none_right_eq_some]at h;obtain⟨⟨_,hN⟩,h⟩:=h;split at h
       · rename_i xs x2 hb;obtain⟨sh',ts'⟩:=x2;have hxs:=tN h;subst hxs;intro K w vs hpin hK hr;let G0:Gh:={ K,role:=fun _=>.dH,pm:=fun _=>none,sm:=fun _=>none,tk:=fun _=>none }
         have hi:Inv (num ns) G0 w [] [] []:={
           known:=hK,bh:=fun _ _ _ _=>.inl rfl,fresh:=fun _ _=>rfl,cG:=fun d c h=>by simp[look]at h,gE:=fun d b h=>by simp[G0]at h,
           cR:=fun s c h=>by simp at h,eo:=fun s b h=>by simp[G0]at h,cT:=fun τ n h=>by simp at h,eI:=fun τ t h=>by simp[G0]at h,l5:=fun b c hb=>⟨rfl,hpin b c hb⟩ }
         have hC:=(tM hI.mixed hI.Ma hI.Fz ih h1 h2 hi (fZ (ρ:=num ns) (G:=G0) hr) (by simpa using hN) hb).1;refine hC.mono ?_
         rintro e w' ⟨v,G',rfl,gA,hi',hevo⟩
         refine⟨v,G'.K,rfl,Jv gA,hevo.K,fun b o u hb hk=>hevo.gF b o u hb rfl hk,hi'.known,⟨hevo.os,hevo.tape,hevo.output,hevo.size,fun b hb=>(hevo.dH b hb rfl).2⟩⟩
       ·simp at h
     ·simp only[run,h3]at h;cases h
     ·simp only[run,h3,h4]at h;exact h5 _ ih _ _ h
   · rcases hI.funcs f g hg with⟨fn,A,af,h1,h2,h3⟩|⟨_,h3|⟨af,pf,h3,_,h4,_⟩⟩
     ·simp only[run,h3,Option.ite_none_right_eq_some]at h;obtain⟨hN,h⟩:=h;exact⟨fun G w vs hi hr=>(tM hI.mixed hI.Ma hI.Fz ih h1 h2 hi hr hN h).1,vj h⟩
     ·simp only[run,h3]at h;cases h
     ·simp only[run,h3,Option.ite_none_right_eq_some]at h;obtain⟨_,h⟩:=h;unfold cb at h;rw[h4]at h;simp[cP]at h
end
end Go.Ab
namespace Go.Ab
def tO:Code→List (Nat×Array Oper)
 | .region id ops _=>[(id,ops)]
 | .seq a b| .cond _ a b| .rangeFunc _ _ a b=>tO a++tO b
 | .block _ c| .loop c| .scope c=>tO c
 |_=>[]
def yg(fn:Func):Code:=match fn.body with|some c=>c|none=>.skip
def Um(fn:Func)(i:Nat):Array Oper:=match (tO (yg fn))[i]? with|some (_,o)=>o|none=>#[]
def FQ(fn:Func)(i:Nat):Nat:=match (tO (yg fn))[i]? with|some (n,_)=>n|none=>0
def jC(fn:Func)(i j:Nat):Oper:=match (Um fn i).toList[j]? with|some o=>o|none=>default
def tP(o:Oper):TypeId×TypeId:=match o.op with| .binOp _ t _ _ u=>(t,u)|_=>(0,0)
def Wq(P:Program)(t:TypeId):TypeId:=match P.underlying t with|some (.slice e)=>e|_=>0
open Go.ChangeShapes Go.WideShapes Go.ChangeAt Go.RowKit
def KW(w:World):bm:=fun b o=>w.cell? ⟨b,o,none⟩
theorem Un(w:World):RO (KW w) w:=fun _ _ _ h=>h
def O2(S:TypeId→PV→Prop):List Field→List PV→Prop
 |[],[]=>True
 |f::fs,p::ps=>S f.type p∧O2 S fs ps
 |_,_=>False
def wt(P:Program):Nat→TypeId→PV→Prop
 |0,_,_=>False
 |n+1,t,p=>match P.underlying t with
   |some .bool=>∃b,p=.bool b
   |some (.int k)=>∃i,p=.int k i∧(Lit.int k i).wf=true
   |some .string=>∃s,p=.str s∧s.length≤maxLen
   |some (.slice e)=>∃els,p=.aw els∧els.length≤maxLen∧∀q∈els,wt P n e q
   |some (.struct fs)=>∃ps:List PV,p=.agg (ps.flatMap aZ)∧O2 (wt P n) fs.toList ps
   |_=>False
def Mb(P:Program):Nat→List Field→Nat→Bool
 |o,[],total=>o == total
 |o,f::fs,total=>f.offset == o && Mb P (o+P.cellsOf f.type) fs total
def FR(P:Program)(T:List TypeId):Bool:=T.all fun t=>match P.underlying t with
 |some .bool|some (.int _)|some .string=>true
 |some (.slice e)=>T.contains e && decide (0<P.cellsOf e)
 |some (.struct fs)=>fs.toList.all (fun f=>T.contains f.type) && Mb P 0 fs.toList (P.cellsOf t)
 |_=>false
section
variable {H:Type} {enc:TypeId×Value→H} {P:Program} {w:World} {base:Nat} {sp:Nat→Bool} {held:Bool}
theorem Bm{α β:Type}{f:α→Option β}:∀{l:List α} {r:List β},l.mapM f=some r→∀{i:Nat} {x:α},l[i]?=some x→∃y,r[i]?=some y∧f x=some y
 |[],_,_,i,x,hx=>by simp at hx
 |a::l,r,h,i,x,hx=>by
   simp only[List.mapM_cons,Option.bind_eq_bind,Option.bind_eq_some_iff,Option.pure_def,Option.some.injEq]at h;obtain⟨y,h1,ys,h2,rfl⟩:=h;cases i with
   |zero=>simp at hx;subst hx;exact⟨y,by simp,h1⟩
   |succ i=>simpa using Bm h2 (i:=i) (by simpa using hx)
theorem Bn{α β:Type}{f:α→Option β}:∀{l:List α} {r:List β},l.mapM f=some r→r.length=l.length
 |[],r,h=>by simp at h;subst h;rfl
 |a::l,r,h=>by
   simp only[List.mapM_cons,Option.bind_eq_bind,Option.bind_eq_some_iff,Option.pure_def,Option.some.injEq]at h;obtain⟨y,h1,ys,h2,rfl⟩:=h;simp[Bn h2]
theorem Jw{a:Addr}{n:Nat}{cs:List Value}(hn:0<n)(h:w.cells? base a n=some cs):cs.length=n∧a.spot=none∧At (KW w) a.block a.off cs:=by
 unfold World.cells? at h;split at h
 · have hl:cs.length=n:=by simpa using Bn h
   have key:∀i,i<n→∃y,cs[i]?=some y∧w.cell? (a.add i)=some y:=by
     intro i hi;exact Bm h (i:=i) (x:=i) (by simp[hi])
   obtain⟨y0,_,h0⟩:=key 0 hn
   have hspot:a.spot=none:=by
     cases hsp:a.spot with
     |none=>rfl
     |some s=>
       simp only[Addr.add,if_true,World.cell?]at h0;split at h0
       ·simp[hsp]at h0
       ·cases h0
   refine⟨hl,hspot,?_⟩;intro j v hj;have hjn:j<n:=by have:=(List.getElem?_eq_some_iff.1 hj).1;omega
   have e:a.add j=⟨a.block,a.off+j,none⟩:=by
     unfold Addr.add;split
     ·rename_i h0;subst h0;cases a;simp_all
     ·rfl
   obtain⟨y,h1,h2⟩:=key j hjn;rw[e]at h2;rw[hj]at h1;cases h1;exact h2
 ·cases h
theorem FT{K:bm}{S:PV→Prop}{b sz:Nat}:∀{n:Nat} {o:Nat},(∀i,i<n→∃vs q,vs.length=sz∧At K b (o+i*sz) vs∧S q∧R K true q vs)→∃els:List PV,els.length=n∧(∀q∈els,S q)∧Row K b o sz els
 |0,o,_=>⟨[],rfl,by simp,by simp only[Row]⟩
 |n+1,o,h=>by
   obtain⟨vs,q,h1,h2,h3,h4⟩:=h 0 (by omega)
   obtain⟨els,e1,e2,e3⟩:=FT (K:=K) (S:=S) (b:=b) (sz:=sz) (n:=n) (o:=o+sz) fun i hi=>by
     obtain⟨vs,q,h1,h2,h3,h4⟩:=h (i+1) (by omega);refine⟨vs,q,h1,?_,h3,h4⟩
     rwa [show o+sz+i*sz=o+(i+1)*sz from by rw[Nat.add_mul];omega]
   refine⟨q::els,by simp[e1],?_,?_⟩
   · intro x hx;simp only[List.mem_cons]at hx;rcases hx with rfl|hx
     ·exact h3
     ·exact e2 x hx
   ·simp only[Row];exact⟨⟨vs,h1,by simpa using h2,h4⟩,e3⟩
theorem wv{K:bm}{S:TypeId→PV→Prop}{cs:List Value}:∀{fs:List Field} {o total:Nat},Mb P o fs total=true→cs.length=total →
   (∀f∈fs,∃q,S f.type q∧R K true q ((cs.drop f.offset).take (P.cellsOf f.type)))→∃ps:List PV,O2 S fs ps∧dd K (ps.flatMap aZ) (cs.drop o)
 |[],o,total,hl,hc,_=>⟨[],by simp[O2],by
     simp[Mb]at hl;simp[dd];omega⟩
 |f::fs,o,total,hl,hc,h=>by
   simp only[Mb,Bool.and_eq_true,beq_iff_eq]at hl;obtain⟨hf,hl⟩:=hl;obtain⟨q,h1,h2⟩:=h f (by simp);obtain⟨ps,e1,e2⟩:=wv (K:=K) (S:=S) (cs:=cs) hl hc (fun f' hf'=>h f' (by simp[hf']));refine⟨q::ps,⟨h1,e1⟩,?_⟩;simp only[List.flatMap_cons];have:=(R.cells h2).append e2;rw[hf]at this
   rwa [←List.drop_drop,List.take_append_drop]at this
theorem tQ{T:List TypeId}(hT:FR P T=true):∀(n:Nat) (t:TypeId) (cs:List Value) (x:DataW H×List MemPlace),t∈T →
   DataW.trod enc P w base sp held n t cs=some x→∃p,wt P n t p∧R (KW w) true p cs
 |0,t,cs,x,_,h=>by simp[DataW.trod]at h
 |n+1,t,cs,x,ht,h=>by
   have hp:=List.all_eq_true.1 hT t ht;simp only[wt];split at hp
   ·rename_i hu;obtain⟨b,rfl,_⟩:=DataW.trod_bool hu h;exact⟨.bool b,by exact⟨b,rfl⟩,by simp[R]⟩
   ·rename_i k hu;obtain⟨i,rfl,_,hw⟩:=DataW.trod_int hu h;exact⟨.int k i,by exact⟨i,rfl,hw⟩,by simp[R]⟩
   ·rename_i hu;obtain⟨s,rfl,_,hl⟩:=DataW.trod_string hu h;exact⟨.str s.data.toList,by exact⟨_,rfl,by simpa using hl⟩,by simp[R]⟩
   · rename_i e hu;simp only[Bool.and_eq_true,List.contains_iff_mem,decide_eq_true_eq]at hp;rcases DataW.trod_slice hu h with⟨rfl,_⟩|⟨a,len,cap,elems,rest,m,e0,rfl,_,_,hlen,hcap,hel,hget,_,_⟩
     ·exact⟨.aw [],by exact⟨[],rfl,by simp,by simp⟩,by simp only[R];exact⟨none,0,0,rfl,Nat.le_refl _,rfl,.inl trivial⟩⟩
     · have hm:m=n:=(by omega);subst hm;by_cases h0:len=0
       ·subst h0;exact⟨.aw [],by exact⟨[],rfl,by simp,by simp⟩,by simp only[R];exact⟨some a,0,cap,rfl,hlen,rfl,.inl trivial⟩⟩
       · have key:∀i,i<len→∃vs q,vs.length=P.cellsOf e∧(a.add (i*P.cellsOf e)).spot=none∧At (KW w) (a.add (i*P.cellsOf e)).block (a.add (i*P.cellsOf e)).off vs∧wt P m e q∧R (KW w) true q vs:=by
           intro i hi;have hg:=hget i hi;rw[List.getElem?_eq_getElem (by omega)]at hg;simp only[Option.bind_eq_some_iff]at hg;obtain⟨vs,h1,h2⟩:=hg;obtain⟨c1,c2,c3⟩:=Jw hp.2 h1;obtain⟨q,q1,q2⟩:=tQ hT m e vs _ hp.1 h2;exact⟨vs,q,c1,c2,c3,q1,q2⟩
         have hspot:a.spot=none:=by
           obtain⟨_,_,_,h2,_⟩:=key 0 (by omega);simpa[Addr.add] using h2
         obtain⟨els,e1,e2,e3⟩:=FT (K:=KW w) (S:=wt P m e) (b:=a.block) (sz:=P.cellsOf e) (n:=len) (o:=a.off) fun i hi=>by
           obtain⟨vs,q,c1,c2,c3,q1,q2⟩:=key i hi;refine⟨vs,q,c1,?_,q1,q2⟩
           have:(a.add (i*P.cellsOf e)).block=a.block∧(a.add (i*P.cellsOf e)).off=a.off+i*P.cellsOf e:=by
             unfold Addr.add;split
             ·rename_i h0;simp[h0]
             ·exact⟨rfl,rfl⟩
           rwa [this.1,this.2]at c3
         refine⟨.aw els,by exact⟨els,rfl,by omega,e2⟩,?_⟩;simp only[R];refine⟨some a,len,cap,rfl,hlen,e1,.inr ⟨a.block,a.off,P.cellsOf e,?_,e3⟩⟩;cases a;simp_all
   · rename_i fs hu;simp only[Bool.and_eq_true,List.all_eq_true,List.contains_iff_mem]at hp;obtain⟨xs,m,e0,_,hcs,hxs,hget⟩:=DataW.trod_struct hu h;have hm:m=n:=by omega
     subst hm
     obtain⟨ps,e1,e2⟩:=wv (K:=KW w) (S:=wt P m) (cs:=cs) hp.2 hcs fun f hf=>by
       obtain⟨i,hi,Xl⟩:=List.getElem_of_mem hf;have hg:=hget i f (by rw[←Array.getElem?_toList];rw[List.getElem?_eq_getElem hi,Xl]);rw[List.getElem?_eq_getElem (by simp at hi;omega)]at hg;exact tQ hT m f.type _ _ (hp.1 f hf) hg
     refine⟨.agg (ps.flatMap aZ),by exact⟨ps,rfl,e1⟩,?_⟩;simp only[R];exact⟨trivial,by simpa using e2⟩
   ·cases hp
theorem O3{T:List TypeId}(hT:FR P T=true){t:TypeId}{v:Value}{d:DataW H}{ps:List MemPlace}{r:Reach}{b0:Nat}(ht:t∈T)(hv:Value.okWide P w r b0 t v)
   (h:DataW.Trod enc P w base sp held t v d ps):∃n p,wt P n t p∧Rel (KW w) p v:=by
 obtain⟨n,hn⟩:=h;obtain⟨p,h1,h2⟩:=tQ hT n t _ _ ht hn;refine⟨n,p,h1,?_⟩;have hp:=List.all_eq_true.1 hT t ht;cases n with
 |zero=>simp[wt]at h1
 |succ n=>
   simp only[wt]at h1;simp only[Value.okWide]at hv;split at hp
   ·rename_i hu;rw[hu]at h1 hv;obtain⟨b,rfl⟩:=h1;simp only[Cell.okWide,hu,Cell.ok]at hv;cases v<;>simp_all[Value.cells,R,Rel]
   ·rename_i k hu;rw[hu]at h1 hv;obtain⟨b,rfl,_⟩:=h1;simp only[Cell.okWide,hu,Cell.ok]at hv;cases v<;>simp_all[Value.cells,R,Rel]
   ·rename_i hu;rw[hu]at h1 hv;obtain⟨b,rfl,_⟩:=h1;simp only[Cell.okWide,hu,Cell.ok]at hv;cases v<;>simp_all[Value.cells,R,Rel]
   · rename_i e hu;rw[hu]at h1 hv;obtain⟨b,rfl,_⟩:=h1;simp only[Cell.okWide,hu,Cell.ok]at hv;cases v with
     |slice a l c=>
       simp only[R]at h2;simp only[Rel,R];simpa[Value.cells] using h2
     |agg cs=>simp at hv
     |_=>simp_all[Value.cells,R]
   ·rename_i fs hu;rw[hu]at h1 hv;obtain⟨b,rfl,_⟩:=h1;obtain⟨cs,rfl,_⟩:=hv;simp only[Value.cells,R]at h2;exact⟨cs.toList,by simp,h2.2⟩
   ·cases hp
def vk(P:Program):List TypeId→List PV→Prop
 |[],[]=>True
 |t::ts,p::ps=>(∃n,wt P n t p)∧vk P ts ps
 |_,_=>False
theorem Bo{T:List TypeId}(hT:FR P T=true){r:Reach}{b0:Nat}:∀{ts:List TypeId} {vs:List Value} {ds:List (DataW H)} {ps:List MemPlace},(∀t∈ts,t∈T) →
   (∀(j:Nat) t v,ts[j]?=some t→vs[j]?=some v→Value.okWide P w r b0 t v)→DataW.TrodAll enc P w base sp held ts vs ds ps→∃cz,vk P ts cz∧jL (KW w) cz vs∧ds.length=ts.length
 |[],vs,ds,ps,_,_,h=>by
   obtain⟨rfl,rfl,rfl⟩:=trodAll_nil h;exact⟨[],by simp[vk],by simp[jL],rfl⟩
 |t::ts,vs,ds,ps,hts,hv,h=>by
   obtain⟨v,vs',d,ds',p,q,rfl,rfl,rfl,h1,h2⟩:=trodAll_cons h;obtain⟨n,pv,a1,a2⟩:=O3 hT (hts t (by simp)) (hv 0 t v (by simp) (by simp)) h1;obtain⟨cz,b1,b2,b3⟩:=Bo hT (fun t ht=>hts t (by simp[ht])) (fun j t v hj hj'=>hv (j+1) t v (by simpa using hj) (by simpa using hj')) h2;exact⟨pv::cz,⟨⟨n,a1⟩,b1⟩,⟨v,vs',rfl,a2,b2⟩,by simp[b3]⟩
theorem tR{W W':World}(hl:laidOutB P=true)(hb:Below W.heap.size W W'):∀{ts:List TypeId} {vs:List Value} {ds:List (DataW H)} {ps:List MemPlace},(∀t∈ts,P.readableRec t=true∧t<P.types.size) →
   DataW.TrodAll enc P W 0 (fun _=>true) true ts vs ds ps→(∀x∈ps,x.block<W.heap.size)→∀{sp:Nat→Bool},(∀x∈ps,sp x.block=true)→DataW.TrodAll enc P W' 0 sp true ts vs ds ps
 |[],vs,ds,ps,_,h,_,_,_=>by
   obtain⟨rfl,rfl,rfl⟩:=trodAll_nil h;exact trodAll_mk0
 |t::ts,vs,ds,ps,hts,h,hlt,sp,hs=>by
   obtain⟨v,vs',d,ds',p,q,rfl,rfl,rfl,h1,h2⟩:=trodAll_cons h;refine trodAll_cons_mk ?_ (tR hl hb (fun t ht=>hts t (by simp[ht])) h2 (fun x hx=>hlt x (by simp[hx])) (fun x hx=>hs x (by simp[hx])));exact WideElems.Trod_stays hl (hts t (by simp)).1 (hts t (by simp)).2 h1 (fun x hx=>hb.same (hlt x (by simp[hx]))) (fun x hx=>hs x (by simp[hx]))
end
theorem Jy{H:Type}{enc:TypeId×Value→H}{P:Program}{f:Func}{s:ChangeSpec}{apart fresh handsOn again:Bool}{W W':World}{args:Array Value}{v:Value}{ds gs:List (DataW H)}{before:List MemPlace}
   (hW:DataW.Whole enc P f.params.toList s.vars apart W args.toList ds gs before)
   (gA:∀(b:Nat) (sp:Nat→Bool) (hd:Bool),DataW.TrodAll enc P W' b sp hd f.resultTypes.toList (v.resultList f.resultTypes.size) (s.fn H (ds++gs)).results [])
   (hargs:∀sp:Nat→Bool,(∀p∈before,sp p.block=true)→DataW.TrodAll enc P W' 0 sp true f.params.toList args.toList (s.fn H (ds++gs)).args before)
   (hvars:∀sp:Nat→Bool,DataW.TrodVars enc P W' sp s.vars (s.fn H (ds++gs)).vars []) (hB:Below W.heap.size W W')
   (hok:∀(j:Nat) (t:TypeId) (r:Value),f.resultTypes[j]?=some t→(v.resultList f.resultTypes.size)[j]?=some r→Value.okWide P W' .any 0 t r) :
   s.post enc P f apart fresh handsOn again W args v W':=by
 have hlt:∀p∈before,p.block<W.heap.size:=fun p hp=>by simpa using hW.lt p hp
 have hold:∀p∈before,(fun b=>decide (b<W.heap.size)) p.block=true:=fun p hp=>by simpa using hlt p hp
 refine⟨ds,gs,before,[],before,[],hW,gA _ _ _,hargs _ hold,hvars _,World.keptBut_mono (fun p hp=>⟨hp,.inr (.inl hp)⟩) (hB.frame _),fun _=>⟨hok,_,_,([]++before)++[],⟨[]++before,[],trodAll_append (hargs _ (fun _ _=>rfl)) (gA _ _ _),hvars _,rfl,?_,?_⟩,?_⟩⟩
 ·obtain⟨_,_,_,_,_,hz,_⟩:=hW;intro b off hp;simp only[List.nil_append,List.append_nil]at hp;rw[hB.frozen (hlt _ hp)];exact hz b off hp
 ·obtain⟨_,_,_,_,_,_,hn⟩:=hW;intro ha;simpa using hn ha
 ·intro p hp _;simpa using hp
theorem lE{H:Type}{enc:TypeId×Value→H}{P:Program}{ns:Names}{AP:Nat→Option aC}(hI:Impl P ns AP){f g:Nat}{fn:Func}{s:ChangeSpec}{T:List TypeId}{tb:TypeId}
   (hg:ns.of f=some g) (hvars:s.vars=[]) (gA:fn.resultTypes=#[tb]) (WT:P.underlying tb=some .bool) (hl:laidOutB P=true)
   (hrd:∀t∈fn.params.toList,P.readableRec t=true∧t<P.types.size) (hT:FR P T=true) (hin:∀t∈fn.params.toList,t∈T)
   (hs:∀ds:List (DataW H),ds.length=fn.params.size→s.fn H ds={ results:=[.lit (.bool true)],args:=ds })
   (law:∀cz,vk P fn.params.toList cz→(aF AP).p g cz=some [.bool true])
   (W:World) (base:Nat) (args:Array Value) (ds gs:List (DataW H)) (before:List MemPlace)
   (hval:∀(j:Nat) t v,fn.params[j]?=some t→args[j]?=some v→Value.okWide P W .any base t v)
   (hW:DataW.Whole enc P fn.params.toList s.vars false W args.toList ds gs before)
   (hpin:Oa ns.l5 W:=by intro _ _ h;exact Option.noConfusion (show (none:Option (Array Value))=some _ from h)) :
   Calls P f args W fun e W'=>∃v,e=.returned v∧s.post enc P fn false true false false W args v W':=by
 have hW':=hW;obtain⟨p,q,hA,hV,rfl,hfz,hnd⟩:=hW;rw[hvars]at hV;obtain⟨rfl,rfl⟩:=trodVars_none hV;simp only[List.append_nil]at hW';obtain⟨cz,h1,h2,h3⟩:=Bo (r:=.any) (b0:=base) hT hin (fun j t v hj hj'=>hval j t v (by simpa using hj) (by simpa using hj')) hA;obtain⟨n,hn⟩:=rR (law cz h1);have hC:=(wq hI n n).p g f cz _ hg hn (KW W) W args.toList hpin (Un W) h2;rw[Array.toArray_toList]at hC;refine hC.mono ?_
 rintro e W' ⟨v,K',rfl,hr,_,_,_,hB⟩
 simp only[jv,Rel,R]at hr;obtain rfl:v=.bool true:=by simpa using hr
 have hlt:∀x∈p,x.block<W.heap.size:=fun x hx=>by simpa using hW'.lt x hx
 have hspec:=hs ds (by simpa using h3);refine⟨_,rfl,Jy hW' (fun _ _ _=>?_) (fun sp hsp=>?_) (fun _=>?_) hB (ok_one gA rfl (okWide_bool_mk WT _))⟩
 ·simp only[List.append_nil];rw[hspec,gA];exact trodAll_cons_mk (p:=[]) (p':=[]) (shut_bool WT _) trodAll_mk0
 ·simp only[List.append_nil];rw[hspec];exact tR hl hB hrd hA hlt hsp
 ·rw[hvars];simp only[List.append_nil];rw[hspec];rfl
end Go.Ab
namespace Go.Ab.Fc
variable {α:Type}
def fN(n:Nat)(K:Nat→Option α):Option α:=match n with
 |0=>K 0
 |m+1=>K (m+1)
theorem qU{n:Nat}{K:Nat→Option α}:fN n K=K n:=by cases n<;>rfl
def fI(n:Int)(K:Int→Option α):Option α:=match n with
 | .ofNat m=>fN m fun m=>K (.ofNat m)
 | .negSucc m=>fN m fun m=>K (.negSucc m)
theorem Md{n:Int}{K:Int→Option α}:fI n K=K n:=by cases n<;>simp[fI,qU]
def fB(b:Bool)(K:Bool→Option α):Option α:=match b with
 |true=>K true
 |false=>K false
theorem tS{b:Bool}{K:Bool→Option α}:fB b K=K b:=by cases b<;>rfl
def fS{β:Type}:List β→(List β→Option α)→Option α
 |[],K=>K []
 |a::r,K=>fS r fun r=>K (a::r)
theorem Bp{β:Type}:∀{l:List β} {K:List β→Option α},fS l K=K l
 |[],_=>rfl
 |a::r,K=>by simp only[fS];rw[Bp]
def fL(p:PV)(K:PV→Option α):Option α:=match p with
 | .bool b=>fB b fun b=>K (.bool b)
 | .int k n=>fI n fun n=>K (.int k n)
 | .str s=>K (.str s)
 | .agg cs=>K (.agg cs)
 | .aw l=>K (.aw l)
theorem Qc{p:PV}{K:PV→Option α}:fL p K=K p:=by cases p<;>simp[fL,tS,Md]
def Uo:List PV→(List PV→Option α)→Option α
 |[],K=>K []
 |a::r,K=>fL a fun a=>Uo r fun r=>K (a::r)
theorem EP:∀{l:List PV} {K:List PV→Option α},Uo l K=K l
 |[],_=>rfl
 |a::r,K=>by simp only[Uo];rw[Qc,EP]
def fP(p:PV)(K:PV→Option α):Option α:=match p with
 | .agg cs=>Uo cs fun cs=>K (.agg cs)
 |p=>fL p K
theorem Me{p:PV}{K:PV→Option α}:fP p K=K p:=by cases p<;>simp[fP,EP,Qc]
def V4(v:AV)(K:AV→Option α):Option α:=match v with
 | .un=>K .un
 | .pv p=>fP p fun p=>K (.pv p)
 | .cY l=>K (.cY l)
 | .own l τ=>fN τ fun τ=>K (.own l τ)
 | .agg cs=>K (.agg cs)
 | .pJ cs=>K (.pJ cs)
 | .au a b=>fN a fun a=>fN b fun b=>K (.au a b)
 | .aM a b=>fN a fun a=>fN b fun b=>K (.aM a b)
 | .dM cs=>fS cs fun cs=>K (.dM cs)
 | .aT a b c d=>fN a fun a=>fN c fun c=>K (.aT a b c d)
 | .fn g c=>K (.fn g c)
 | .fw=>K .fw
 | .fR s=>fN s fun s=>K (.fR s)
 | .dB kvs=>fS kvs fun kvs=>K (.dB kvs)
 | .rb a b c=>fN a fun a=>fN b fun b=>fN c fun c=>K (.rb a b c)
 | .jJ a b=>fN a fun a=>fN b fun b=>K (.jJ a b)
theorem Mf{v:AV}{K:AV→Option α}:V4 v K=K v:=by cases v<;>simp[V4,Me,qU,Bp]
def O4:List AV→(List AV→Option α)→Option α
 |[],K=>K []
 |a::r,K=>V4 a fun a=>O4 r fun r=>K (a::r)
theorem tT:∀{l:List AV} {K:List AV→Option α},O4 l K=K l
 |[],_=>rfl
 |a::r,K=>by simp only[O4];rw[Mf,tT]
def fA(v:AV)(K:AV→Option α):Option α:=match v with
 | .agg cs=>O4 cs fun cs=>K (.agg cs)
 | .pJ cs=>O4 cs fun cs=>K (.pJ cs)
 | .fn g cs=>O4 cs fun cs=>K (.fn g cs)
 |v=>V4 v K
theorem qV{v:AV}{K:AV→Option α}:fA v K=K v:=by cases v<;>simp[fA,tT,Mf]
def Up:List AV→(List AV→Option α)→Option α
 |[],K=>K []
 |a::r,K=>fA a fun a=>Up r fun r=>K (a::r)
theorem tU:∀{l:List AV} {K:List AV→Option α},Up l K=K l
 |[],_=>rfl
 |a::r,K=>by simp only[Up];rw[qV,tU]
def fV(v:AV)(K:AV→Option α):Option α:=match v with
 | .pv (.str s)=>fS s fun s=>K (.pv (.str s))
 | .pv (.aw l)=>fS l fun l=>K (.pv (.aw l))
 | .cY l=>fS l fun l=>Uo l fun l=>K (.cY l)
 | .own l τ=>fS l fun l=>fN τ fun τ=>K (.own l τ)
 |v=>fA v K
theorem Mg{v:AV}{K:AV→Option α}:fV v K=K v:=by
 cases v with
 |pv p=>cases p<;>simp[fV,Bp,qV]
 |_=>simp[fV,Bp,qV,EP,qU]
def Uq:List PV→(List PV→Option α)→Option α
 |[],K=>K []
 |a::r,K=>fP a fun a=>Uq r fun r=>K (a::r)
theorem Mh:∀{l:List PV} {K:List PV→Option α},Uq l K=K l
 |[],_=>rfl
 |a::r,K=>by simp only[Uq];rw[Me,Mh]
def fresh:AK→Bool
 | .v (.dZ _)| .v (.slice ..)| .append ..| .v (.bin .add)=>true
 |_=>false
def Xm(op:AK)(v:AV)(K:AV→Option α):Option α:=match op,v with
 | .v (.dZ _),.cY l=>Uq l fun l=>K (.cY l)
 |op,v=>if fresh op then fV v K else fA v K
def fO{β:Type}(f:β→(β→Option α)→Option α)(o:Option β)(K:Option β→Option α):Option α:=match o with
 |none=>K none
 |some x=>f x fun x=>K (some x)
theorem Ur{β:Type}{f:β→(β→Option α)→Option α}(hf:∀x K,f x K=K x){o:Option β}{K:Option β→Option α}:fO f o K=K o:=by cases o<;>simp[fO,hf]
def Tx:Sh→(Sh→Option α)→Option α
 |[],K=>K []
 |a::r,K=>fO O4 a fun a=>Tx r fun r=>K (a::r)
theorem p_:∀{l:Sh} {K:Sh→Option α},Tx l K=K l
 |[],_=>rfl
 |a::r,K=>by simp only[Tx];rw[Ur (fun _ _=>tT),p_]
def fT:aG→(aG→Option α)→Option α
 |[],K=>K []
 |a::r,K=>fN a fun a=>fT r fun r=>K (a::r)
theorem wx:∀{l:aG} {K:aG→Option α},fT l K=K l
 |[],_=>rfl
 |a::r,K=>by simp only[fT];rw[qU,wx]
def O5:List (Nat×AV)→(List (Nat×AV)→Option α)→Option α
 |[],K=>K []
 |(t,v)::r,K=>fA v fun v=>O5 r fun r=>K ((t,v)::r)
theorem FU:∀{l:List (Nat×AV)} {K:List (Nat×AV)→Option α},O5 l K=K l
 |[],_=>rfl
 |(t,v)::r,K=>by simp only[O5];rw[qV,FU]
def O6:List (Nat×List AV)→(List (Nat×List AV)→Option α)→Option α
 |[],K=>K []
 |(t,v)::r,K=>O4 v fun v=>O6 r fun r=>K ((t,v)::r)
theorem FV:∀{l:List (Nat×List AV)} {K:List (Nat×List AV)→Option α},O6 l K=K l
 |[],_=>rfl
 |(t,v)::r,K=>by simp only[O6];rw[tT,FV]
def Sv(st:St)(K:St→Option α):Option α:=match st with
 |⟨env,mem,sh,aa⟩=>O5 env fun env=>O6 mem fun mem=>Tx sh fun sh=>fT aa fun aa=>K ⟨env,mem,sh,aa⟩
theorem tV{st:St}{K:St→Option α}:Sv st K=K st:=by
 obtain⟨env,mem,sh,aa⟩:=st;simp only[Sv];rw[FU,FV,p_,wx]
def lk{β:Type}:List (Nat×β)→Nat→Option β
 |[],_=>none
 |(k,v)::r,t=>bif Nat.beq k t then some v else lk r t
theorem wy{β:Type}:∀{l:List (Nat×β)} {t:Nat},lk l t=look l t
 |[],_=>rfl
 |(k,v)::r,t=>by
   simp only[lk,look];rw[wy];by_cases h:k=t
   ·subst h;simp
   ·rw[if_neg h,show Nat.beq k t=false from by rw[Bool.eq_false_iff];intro e;exact h (Nat.eq_of_beq_eq_true e)];rfl
def pt{β:Type}:List (Nat×β)→Nat→β→(List (Nat×β)→Option α)→Option α
 |[],t,u,K=>K [(t,u)]
 |(k,v)::r,t,u,K=>bif Nat.beq k t then K ((k,u)::r) else pt r t u fun r=>K ((k,v)::r)
theorem Mi{β:Type}:∀{l:List (Nat×β)} {t:Nat} {u:β} {K:List (Nat×β)→Option α},pt l t u K=K (di l t u)
 |[],_,_,_=>rfl
 |(k,v)::r,t,u,K=>by
   simp only[pt,di];by_cases h:k=t
   ·subst h;simp
   ·rw[if_neg h,show Nat.beq k t=false from by rw[Bool.eq_false_iff];intro e;exact h (Nat.eq_of_beq_eq_true e)];exact Mi
def od(env:List (Nat×AV))(x:eG)(K:AV→Option α):Option α:=match x with
 | .t n=>match lk env n with
   |some v=>K v
   |none=>none
 | .c v=>K v
theorem Us{env:List (Nat×AV)}{x:eG}{K:AV→Option α}:od env x K=(gX env x).bind K:=by
 cases x with
 |t n=>simp only[od,gX,wy];cases look env n<;>rfl
 |c v=>rfl
def Tz(env:List (Nat×AV)):List eG→(List AV→Option α)→Option α
 |[],K=>K []
 |x::r,K=>od env x fun v=>Tz env r fun vs=>K (v::vs)
theorem Mj{env:List (Nat×AV)}:∀{l:List eG} {K:List AV→Option α},Tz env l K=(d3 env l).bind K
 |[],_=>rfl
 |x::r,K=>by
   simp only[Tz,d3];rw[Us];cases gX env x with
   |none=>rfl
   |some v=>
     dsimp only[Option.bind_some];rw[Mj];cases d3 env r<;>rfl
def Sw:IntKind→Nat
 | .i8=>0| .i16=>1| .i32=>2| .i64=>3| .u8=>4| .u16=>5| .u32=>6| .u64=>7
theorem O7{a b:IntKind}(h:Nat.beq (Sw a) (Sw b)=true):a=b:=by
 have:=Nat.eq_of_beq_eq_true h;cases a<;>cases b<;>first|rfl|(simp[Sw]at this)
def V5:Int→Int→Bool
 | .ofNat a,.ofNat b=>Nat.beq a b
 | .negSucc a,.negSucc b=>Nat.beq a b
 |_,_=>false
theorem Wr{a b:Nat}:Nat.beq a b=decide (a=b):=by
 by_cases h:a=b
 ·subst h;simp
 ·rw[decide_eq_false h,Bool.eq_false_iff];intro e;exact h (Nat.eq_of_beq_eq_true e)
theorem Mk{a b:Int}:V5 a b=(a == b):=by
 cases a<;>cases b<;>(rw[Bool.eq_iff_iff];simp[V5,Wr])<;>omega
def TA:Int→Int→Bool
 | .ofNat a,.ofNat b=>Nat.blt a b
 | .negSucc a,.negSucc b=>Nat.blt b a
 | .negSucc _,.ofNat _=>true
 | .ofNat _,.negSucc _=>false
theorem yh{a b:Int}:TA a b=decide (a<b):=by
 cases a<;>cases b<;>(rw[Bool.eq_iff_iff];simp[TA,Nat.blt_eq])<;>omega
def Sx(k:IntKind)(a b:Int)(K:Int→Option α):Option α:=match k,a,b with
 | .i64,.ofNat x,.ofNat y=>bif Nat.blt (x+y) 4611686018427387904 then fN (x+y) fun n=>K (.ofNat n) else fI (IntKind.i64.wrap (.ofNat x+.ofNat y)) K
 |k,a,b=>fI (k.wrap (a+b)) K
theorem O8{k:IntKind}{a b:Int}{K:Int→Option α}:Sx k a b K=K (k.wrap (a+b)):=by
 unfold Sx;split
 · rename_i x y;cases h:Nat.blt (x+y) 4611686018427387904 with
   |false=>simp only[cond_false];exact Md
   |true=>
     simp only[cond_true,qU];have:x+y<4611686018427387904:=by simpa[Nat.blt_eq] using h
     congr 1;simp[IntKind.wrap,IntKind.bits,IntKind.signed];omega
 ·exact Md
def Sy(op:BinOp)(a b:AV)(K:AV→Option α):Option α:=match a with
 | .pv (.int k x)=>match b with
   | .pv (.int k' y)=>bif Nat.beq (Sw k) (Sw k') then (match op with
       | .eql=>fB (V5 x y) fun c=>K (.pv (.bool c))
       | .neq=>fB (!V5 x y) fun c=>K (.pv (.bool c))
       | .lss=>fB (TA x y) fun c=>K (.pv (.bool c))
       | .gtr=>fB (TA y x) fun c=>K (.pv (.bool c))
       | .geq=>fB (!TA x y) fun c=>K (.pv (.bool c))
       | .leq=>fB (!TA y x) fun c=>K (.pv (.bool c))
       | .add=>Sx k x y fun n=>K (.pv (.int k n))
       |op=>(dj op a b).bind fun v=>fV v K)
     else (dj op a b).bind fun v=>fV v K
   |b=>(dj op a b).bind fun v=>fV v K
 |a=>(dj op a b).bind fun v=>fV v K
theorem O9{op:BinOp}{a b:AV}{K:AV→Option α}:Sy op a b K=(dj op a b).bind K:=by
 have dflt:((dj op a b).bind fun v=>fV v K)=(dj op a b).bind K:=by
   congr 1;funext v;exact Mg
 unfold Sy;split
 · rename_i k x;split
   · rename_i k' y;cases hk:Nat.beq (Sw k) (Sw k') with
     |false=>exact dflt
     |true=>
       obtain rfl:=O7 hk;simp only[cond_true];split
       ·simp[tS,Mk,dj]
       ·simp[tS,Mk,dj,bne]
       ·simp[tS,yh,dj]
       ·simp[tS,yh,dj]
       ·simp[tS,yh,dj,←decide_not,Int.not_lt]
       ·simp[tS,yh,dj,←decide_not,Int.not_lt]
       ·simp[O8,dj]
       ·exact dflt
   ·exact dflt
 ·exact dflt
def WU(off:Nat)(x:AV)(K:AV→Option α):Option α:=match x with
 | .au d o=>fN (o+off) fun n=>K (.au d n)
 | .aM b o=>fN (o+off) fun n=>K (.aM b n)
 | .dM cs=>fS (cs.drop off) fun cs=>K (.dM cs)
 |_=>none
def nth{β:Type}:List β→Nat→Option β
 |[],_=>none
 |a::r,n=>match n with
   |0=>some a
   |n+1=>nth r n
theorem ER{β:Type}:∀{l:List β} {n:Nat},nth l n=l[n]?
 |[],n=>by simp[nth]
 |a::r,0=>rfl
 |a::r,n+1=>by simp only[nth,List.getElem?_cons_succ];exact ER
def ln{β:Type}:List β→Nat→(Nat→Option α)→Option α
 |[],n,K=>K n
 |_::r,n,K=>fN (n+1) fun n=>ln r n K
theorem FW{β:Type}:∀{l:List β} {n:Nat} {K:Nat→Option α},ln l n K=K (n+l.length)
 |[],n,K=>rfl
 |_::r,n,K=>by
   simp only[ln];rw[qU,FW];congr 1;simp;omega
def xV(o:N2)(vals:List AV)(K:AV→Option α):Option α:=match o with
 | .mv=>match vals with
   |[x]=>K x
   |vals=>(bA .mv vals).bind fun v=>fA v K
 | .bin op=>match vals with
   |[a,b]=>Sy op a b K
   |vals=>(bA (.bin op) vals).bind fun v=>fA v K
 | .gV off=>match vals with
   |[x]=>WU off x K
   |vals=>(bA (.gV off) vals).bind fun v=>fA v K
 | .pK=>match vals with
   |[.au a b]=>K (.au a b)
   |[.aM a b]=>K (.aM a b)
   |vals=>(bA .pK vals).bind fun v=>fA v K
 | .index=>match vals with
   |[.pv (.str s),.pv (.int _ (.ofNat i))]=>match nth s i with
     |some b=>fN b.toNat fun n=>K (.pv (.int .u8 (.ofNat n)))
     |none=>none
   |vals=>(bA .index vals).bind fun v=>fA v K
 | .Ca=>match vals with
   |[.pv (.str s)]=>ln s 0 fun n=>K (.pv (.int .i64 (.ofNat n)))
   |vals=>(bA .Ca vals).bind fun v=>fA v K
 | .len=>match vals with
   |[.pv (.aw l)]=>ln l 0 fun n=>K (.pv (.int .i64 (.ofNat n)))
   |[.own l _]=>ln l 0 fun n=>K (.pv (.int .i64 (.ofNat n)))
   |vals=>(bA .len vals).bind fun v=>fA v K
 | .dZ sz=>match bA (.dZ sz) vals with
   |some (.cY l)=>Uq l fun l=>K (.cY l)
   |some v=>K v
   |none=>none
 | .slice a b c d e=>(bA (.slice a b c d e) vals).bind fun v=>fV v K
 |o=>(bA o vals).bind fun v=>fA v K
theorem Ut{o:N2}{vals:List AV}{K:AV→Option α}:xV o vals K=(bA o vals).bind K:=by
 have dA:∀o vals,((bA o vals).bind fun v=>fA v K)=(bA o vals).bind K:=by
   intro o vals;congr 1;funext v;exact qV
 unfold xV;split
 · split
   ·rfl
   ·exact dA _ _
 · split
   ·exact O9
   ·exact dA _ _
 · split
   ·rename_i x;cases x<;>simp[WU,bA,qU,Bp]
   ·exact dA _ _
 · split
   ·rfl
   ·rfl
   ·exact dA _ _
 · split
   · rename_i s k i;rw[ER];have hi:¬(Int.ofNat i<0):=by simp
     simp only[bA];rw[if_neg hi];simp only[Int.toNat_natCast,Int.ofNat_eq_natCast];cases s[i]? with
     |none=>rfl
     |some b=>simp[qU]
   ·exact dA _ _
 · split
   ·simp[FW,bA]
   ·exact dA _ _
 · split
   ·simp[FW,bA,cf]
   ·simp[FW,bA,cf]
   ·exact dA _ _
 · split
   ·rename_i l h;rw[h,Mh];rfl
   ·rename_i h;rw[h];rfl
   ·rename_i h;rw[h];rfl
 ·congr 1;funext v;exact Mg
 ·exact dA _ _
def lay(env:List (Nat×AV))(mem:List (Nat×List AV))(sh:Sh)(aa:aG)(d:Option Nat)(v:AV)(K:St→Option α):Option α:=match d with
 |some d=>pt env d v fun env=>K ⟨env,mem,sh,aa⟩
 |none=>K ⟨env,mem,sh,aa⟩
theorem mF{env:List (Nat×AV)}{mem:List (Nat×List AV)}{sh:Sh}{aa:aG}{d:Option Nat}{v:AV}{K:St→Option α}:lay env mem sh aa d v K=K ⟨fG env d v,mem,sh,aa⟩:=by
 cases d<;>simp[lay,fG,Mi]
def Sz(mem:List (Nat×List AV))(k:Nat)(cs:Option (List AV))(K:List (Nat×List AV)→Option α):Option α:=match cs with
 |some cs=>O4 cs fun cs=>pt mem k cs K
 |none=>K mem
theorem O_{mem:List (Nat×List AV)}{k:Nat}{cs:Option (List AV)}{K:List (Nat×List AV)→Option α}:Sz mem k cs K=K (ez mem (some k) cs):=by
 cases cs<;>simp[Sz,ez,tT,Mi]
def Ml(orc:eH)(op:AK)(d:Option Nat)(vals:List AV)(env:List (Nat×AV))(mem:List (Nat×List AV))(sh:Sh)(aa:aG)(K:St→Option α):Option α:=
 match exec orc op vals (op.key.bind (look mem)) sh aa with
 |none=>none
 |some ⟨val,cells,sh',toks'⟩=>fV val fun val=>(match op.key with|some k=>Sz mem k cells|none=>fun K=>K mem) fun mem=>Tx sh' fun sh'=>fT toks' fun toks'=>lay env mem sh' toks' d val K
theorem yi{orc:eH}{op:AK}{d:Option Nat}{vals:List AV}{env:List (Nat×AV)}{mem:List (Nat×List AV)}{sh:Sh}{aa:aG}{K:St→Option α} :
   Ml orc op d vals env mem sh aa K=(match exec orc op vals (op.key.bind (look mem)) sh aa with
     |none=>none
     |some out=>some (⟨fG env d out.val,ez mem op.key out.cells,out.sh,out.aa⟩:St)).bind K:=by
 unfold Ml;cases exec orc op vals (op.key.bind (look mem)) sh aa with
 |none=>rfl
 |some out=>
   obtain⟨val,cells,sh',toks'⟩:=out;simp only[Mg,Option.bind_some];cases op.key with
   |none=>simp only[p_,wx,mF];cases cells<;>rfl
   |some k=>simp only[O_,p_,wx,mF]
def xP(orc:eH)(g:Nat)(vals:List AV)(K:AV→Option α):Option α:=match cU [] vals with
 |some cz=>match orc.p g cz with
   |some rs=>fA (sG rs) K
   |none=>none
 |none=>none
def x1(orc:eH)(op:AK)(d:Option Nat)(vals:List AV)(env:List (Nat×AV))(mem:List (Nat×List AV))(sh:Sh)(aa:aG)(K:St→Option α):Option α:=match op with
 | .v o=>xV o vals fun v=>lay env mem sh aa d v K
 | .aJ g=>xP orc g vals fun v=>lay env mem sh aa d v K
 | .cd key off sz ag=>match vals with
   |[.au d' o]=>match lk mem key with
     |some cs=>bif Nat.beq d' key && Nat.beq o off then (match bO ag sz cs off with
         |some v=>fA v fun v=>lay env mem sh aa d v K
         |none=>none) else none
     |none=>none
   |vals=>Ml orc (.cd key off sz ag) d vals env mem sh aa K
 | .eK sz ag=>match vals with
   |[.aM b off]=>match nth sh b with
     |some (some cs)=>bif bY cs then none else (match bO ag sz cs off with
         |some v=>fA v fun v=>lay env mem sh aa d v K
         |none=>none)
     |_=>none
   |vals=>Ml orc (.eK sz ag) d vals env mem sh aa K
 |op=>Ml orc op d vals env mem sh aa K
theorem Uu{orc:eH}{op:AK}{d:Option Nat}{vals:List AV}{env:List (Nat×AV)}{mem:List (Nat×List AV)}{sh:Sh}{aa:aG}{K:St→Option α} :
   x1 orc op d vals env mem sh aa K=(match exec orc op vals (op.key.bind (look mem)) sh aa with
     |none=>none
     |some out=>some (⟨fG env d out.val,ez mem op.key out.cells,out.sh,out.aa⟩:St)).bind K:=by
 unfold x1;split
 · rename_i o;simp only[Ut,mF,exec];cases bA o vals with
   |none=>rfl
   |some v=>rfl
 · rename_i g;simp only[xP,exec];cases cU [] vals with
   |none=>rfl
   |some cz=>
     dsimp only;cases orc.p g cz with
     |none=>rfl
     |some rs=>simp only[qV,mF];rfl
 · rename_i key off sz ag;split
   · rename_i d' o;rw[wy];have hk:((AK.cd key off sz ag).key.bind (look mem))=look mem key:=rfl;rw[hk];cases look mem key with
     |none=>simp[exec]
     |some cs=>
       simp only[exec];by_cases h:d'=key∧o=off
       · obtain⟨rfl,rfl⟩:=h;simp only[Nat.beq_refl,Bool.and_self,cond_true,and_self,if_true];cases bO ag sz cs o with
         |none=>rfl
         |some v=>simp only[qV,mF];rfl
       · rw[if_neg h]
         have:(Nat.beq d' key && Nat.beq o off)=false:=by
           rw[Bool.eq_false_iff];intro e;simp only[Bool.and_eq_true]at e;exact h ⟨Nat.eq_of_beq_eq_true e.1,Nat.eq_of_beq_eq_true e.2⟩
         rw[this];rfl
   ·exact yi
 · rename_i sz ag;split
   · rename_i b off;rw[ER];simp only[exec];split
     · rename_i cs h;rw[h];dsimp only;cases bY cs with
       |true=>rfl
       |false=>
         simp only[cond_false,Bool.false_eq_true,if_false];cases bO ag sz cs off with
         |none=>rfl
         |some v=>simp only[qV,mF];rfl
     · rename_i h;split
       ·rfl
       · rename_i e1 e2 e3;split at e3
         ·rename_i cs e4;exact absurd e4 (h cs)
         ·cases e3
   ·exact yi
 ·exact yi
def V6(orc:eH)(o:dN)(st:St)(K:St→Option α):Option α:=match st with
 |⟨env,mem,sh,aa⟩=>match o with
   |⟨d,g,args,op⟩=>match g with
     |none=>Tz env args fun vals=>x1 orc op d vals env mem sh aa K
     |some (t,b)=>match lk env t with
       |some (.pv (.bool c))=>bif c == b then Tz env args fun vals=>x1 orc op d vals env mem sh aa K else lay env mem sh aa d .un K
       |some .un=>lay env mem sh aa d .un K
       |_=>none
theorem SA{orc:eH}{o:dN}{st:St}{K:St→Option α}:V6 orc o st K=(dV orc o st).bind K:=by
 obtain⟨env,mem,sh,aa⟩:=st;obtain⟨d,g,args,op⟩:=o
 have run:(Tz env args fun vals=>x1 orc op d vals env mem sh aa K)=(match d3 env args with
     |none=>none
     |some vals=>match exec orc op vals (op.key.bind (look mem)) sh aa with
       |none=>none
       |some out=>some (⟨fG env d out.val,ez mem op.key out.cells,out.sh,out.aa⟩:St)).bind K:=by
   rw[Mj];cases d3 env args with
   |none=>rfl
   |some vals=>exact Uu
 cases g with
 |none=>simp only[V6,dV,fh];exact run
 |some p=>
   obtain⟨t,b⟩:=p;simp only[V6,dV,fh,wy];split
   · rename_i c h;rw[h];dsimp only;cases hc:(c == b) with
     |true=>simp only[cond_true];exact run
     |false=>simp only[cond_false,mF];rfl
   ·rename_i h;rw[h];simp only[mF];rfl
   · rename_i h1 h2;split
     ·rfl
     ·rename_i e;split at e<;>simp_all
     ·rename_i e;split at e<;>simp_all
def O'(orc:eH):List dN→St→(St→Option α)→Option α
 |[],st,K=>K st
 |o::r,st,K=>V6 orc o st fun st=>O' orc r st K
theorem FX{orc:eH}:∀{l:List dN} {st:St} {K:St→Option α},O' orc l st K=(bt orc l st).bind K
 |[],_,_=>rfl
 |o::r,st,K=>by
   simp only[O',bt];rw[SA];cases dV orc o st with
   |none=>rfl
   |some s=>exact FX
def FY(f:St→(aU→St→Option α)→Option α)(pre:St→St):Nat→St→(aU→St→Option α)→Option α
 |0,_,_=>none
 |n+1,st,K=>Sv (pre st) fun st=>f st fun e st=>match e with
   | .normal=>FY f pre n st K
   |e=>K e st
def Qd(live:List Nat)(v:AV):Bool:=match v with
 | .au d _=>live.contains d
 | .jJ d _=>live.contains d
 | .pv _=>true
 | .own ..=>true
 | .agg cs=>eT cs
 |v=>bD v
theorem Mm{live:List Nat}{v:AV}:Qd live v=dW live v:=by cases v<;>rfl
def Uv(live:List Nat)(env:List (Nat×AV)):List Nat→(List (Nat×AV)→Option α)→Option α
 |[],K=>K []
 |t::r,K=>match lk env t with
   |some v=>Uv live env r fun e=>bif Qd live v then K ((t,v)::e) else K e
   |none=>Uv live env r K
theorem ES{live:List Nat}{env:List (Nat×AV)}:∀{l:List Nat} {K:List (Nat×AV)→Option α},Uv live env l K=K (bB live env l)
 |[],_=>rfl
 |t::r,K=>by
   simp only[Uv,bB,wy];cases look env t with
   |none=>exact ES
   |some v=>
     dsimp only;rw[ES,Mm];cases dW live v<;>simp
def Uw(mem:List (Nat×List AV)):List Nat→(List (Nat×List AV)→Option α)→Option α
 |[],K=>K []
 |t::r,K=>match lk mem t with
   |some v=>Uw mem r fun e=>K ((t,v)::e)
   |none=>Uw mem r K
theorem ET{mem:List (Nat×List AV)}:∀{l:List Nat} {K:List (Nat×List AV)→Option α},Uw mem l K=K (bJ mem l)
 |[],_=>rfl
 |t::r,K=>by
   simp only[Uw,bJ,wy];cases look mem t with
   |none=>exact ET
   |some v=>exact ET
def rs(live:List Nat)(st:St)(K:St→Option α):Option α:=match st with
 |⟨env,mem,sh,aa⟩=>Uv live env live fun env=>Uw mem live fun mem=>K ⟨env,mem,sh,aa⟩
theorem Ux{live:List Nat}{st:St}{K:St→Option α}:rs live st K=K (restrict live st):=by
 obtain⟨env,mem,sh,aa⟩:=st;simp only[rs];rw[ES,ET];rfl
def Qe(K:aU→St→Option α):Option (aU×St)→Option α
 |some (e,st)=>K e st
 |none=>none
def cF(orc:eH)(k:Nat):ae→St→(aU→St→Option α)→Option α
 | .skip,st,K=>K .normal st
 | .oG ops live,st,K=>O' orc ops st fun st=>rs live st fun st=>K .normal st
 | .seq a b,st,K=>cF orc k a st fun e st=>match e with
   | .normal=>cF orc k b st K
   |e=>K e st
 | .cond c a b,st,K=>match gX st.env c with
   |some (.pv (.bool t))=>match t with
     |true=>cF orc k a st K
     |false=>cF orc k b st K
   |_=>none
 | .block id b,st,K=>cF orc k b st fun e st=>match e with
   | .exit id'=>if id'=id then K .normal st else K (.exit id') st
   |e=>K e st
 | .loop live b,st,K=>FY (cF orc k b) (fun s=>norm (restrict live s)) k st K
 | .back c gb pi px sz ag live x y,st,K=>Qe K (cP orc k (.back c gb pi px sz ag live x y) st)
 | .exit id,st,K=>K (.exit id) st
 | .ret,st,K=>K .ret st
 | .bR ts,st,K=>K .normal (nG ts st)
 | .N3 ds,st,K=>bif fH st.env ds then K .normal st else none
 | .lZ ps,st,K=>Sv (w6 ps st) fun st=>K .normal st
 | .mc ts,st,K=>Sv (GB ts st) fun st=>K .normal st
 | .RK ts,st,K=>Sv (jK ts st) fun st=>K .normal st
theorem Bq{f:St→(aU→St→Option α)→Option α}{g:St→Option (aU×St)}{pre:St→St}(h:∀st K,f st K=Qe K (g st)):∀{n:Nat} {st:St} {K:aU→St→Option α},FY f pre n st K=Qe K (eW g pre n st)
 |0,_,_=>rfl
 |n+1,st,K=>by
   simp only[FY,eW];rw[tV,h];cases g (pre st) with
   |none=>rfl
   |some q=>
     obtain⟨e,s⟩:=q;cases e with
     |normal=>exact Bq h
     |ret=>rfl
     |exit id=>rfl
theorem tW{orc:eH}{k:Nat}:∀{c:ae} {st:St} {K:aU→St→Option α},cF orc k c st K=Qe K (cP orc k c st)
 | .skip,_,_=>rfl
 | .oG ops live,st,K=>by
   simp only[cF,cP];rw[FX];cases bt orc ops st with
   |none=>rfl
   |some s=>simp only[Option.bind_some,Ux,Qe]
 | .seq a b,st,K=>by
   simp only[cF,cP];rw[tW];cases cP orc k a st with
   |none=>rfl
   |some q=>
     obtain⟨e,s⟩:=q;cases e with
     |normal=>simp only[Qe];exact tW
     |ret=>rfl
     |exit id=>rfl
 | .cond c a b,st,K=>by
   simp only[cF,cP];split
   · rename_i t h;rw[h];cases t with
     |true=>exact tW
     |false=>exact tW
   · rename_i h;split
     ·rename_i t h';exact absurd h' (h t)
     ·rfl
 | .block id b,st,K=>by
   simp only[cF,cP];rw[tW];cases cP orc k b st with
   |none=>rfl
   |some q=>
     obtain⟨e,s⟩:=q;cases e with
     |normal=>rfl
     |ret=>rfl
     |exit id'=>
       simp only[Qe];split<;>rfl
 | .loop live b,st,K=>by
   simp only[cF,cP];exact Bq (g:=cP orc k b) fun _ _=>tW
 | .back c gb pi px sz ag live x y,_,_=>by simp only[cF]
 | .exit id,_,_=>rfl
 | .ret,_,_=>rfl
 | .bR _,_,_=>rfl
 | .N3 ds,st,K=>by
   simp only[cF,cP];cases fH st.env ds<;>rfl
 | .lZ ps,st,K=>by
   simp only[cF,cP];rw[tV];rfl
 | .mc ps,st,K=>by
   simp only[cF,cP];rw[tV];rfl
 | .RK ps,st,K=>by
   simp only[cF,cP];rw[tV];rfl
def Pa(aV:Bool)(af:aC)(sh0:Sh)(e:aU)(st:St)(K:List AV→Sh→aG→Option α):Option α:=
 match e with
 | .exit _=>none
 |_=>match d9 st af.results with
   |some vs=>
     Up (cA aV af.ks st.sh vs) fun rs=>
     let sh':=if rs.all (aI sh0.length)=true then (eL aV af.ks st.sh vs).take sh0.length else eL aV af.ks st.sh vs
     if rs.all bE=true then
       match cZ st.aa rs sh' with
       |(rs,sh,_,ts)=>Up rs fun rs=>Tx sh fun sh=>fT ts fun ts=>K rs sh ts
     else none
   |none=>none
def Jz(K:List AV→Sh→aG→Option α):Option (List AV×Sh×aG)→Option α
 |some (a,b,c)=>K a b c
 |none=>none
theorem Pb{aV:Bool}{af:aC}{sh0:Sh}{e:aU}{st:St}{K:List AV→Sh→aG→Option α}:Pa aV af sh0 e st K=Jz K (finish aV af sh0 (some (e,st))):=by
 cases e with
 |exit id=>rfl
 |normal=>
   simp only[Pa,finish];cases d9 st af.results with
   |none=>rfl
   |some vs=>
     simp only[tU,or_true,if_true];split
     ·simp only[tU,p_,wx,Jz]
     ·rfl
 |ret=>
   simp only[Pa,finish];cases d9 st af.results with
   |none=>rfl
   |some vs=>
     simp only[tU,true_or,if_true];split
     ·simp only[tU,p_,wx,Jz]
     ·rfl
def wz(orc:eH)(k:Nat)(aV:Bool)(af:aC)(args:List AV)(sh:Sh)(ts:aG)(K:List AV→Sh→aG→Option α):Option α:=
 Sv { env:=ca 0 args,mem:=[],sh,aa:=ts } fun st=>cF orc k af.body st fun e st=>Pa aV af sh e st K
theorem pg{orc:eH}{k:Nat}{aV:Bool}{af:aC}{args:List AV}{sh:Sh}{ts:aG}{K:List AV→Sh→aG→Option α}:wz orc k aV af args sh ts K=Jz K (cb orc k aV af args sh ts):=by
 unfold wz;rw[tV,tW,gg];cases cP orc k af.body { env:=ca 0 args,mem:=[],sh,aa:=ts } with
 |none=>rfl
 |some q=>obtain⟨e,s⟩:=q;simp only[Qe];exact Pb
def JA(AP:Nat→Option aC)(k:Nat):Nat→eH
 |0=>{ p:=fun _ _=>none,i:=fun _ _ _ _=>none }
 |n+1=>
   { p:=fun g cz=>match AP g with
       |some af=>match af.rf with
         |some f=>f.f (JA AP k n).p cz
         |none=>if cz.length=af.nparams∧cz.length≤af.ntmps then wz (JA AP k n) k false af (cz.map .pv) [] [] fun rs _ _=>fJ rs else none
       |none=>none
     i:=fun g args sh ts=>match AP g with
       |some af=>if args.length≤af.ntmps then wz (JA AP k n) k true af args sh ts fun a b c=>some (a,b,c) else none
       |none=>none }
theorem FZ{AP:Nat→Option aC}{k:Nat}:∀n,JA AP k n=run AP k n
 |0=>rfl
 |n+1=>by
   have ih:=FZ (AP:=AP) (k:=k) n;simp only[JA,run];congr 1
   · funext g cz
     cases AP g with
     |none=>rfl
     |some af=>
       dsimp only;cases af.rf with
       |some f=>dsimp only;rw[ih]
       |none=>
         dsimp only;split
         · rw[pg,ih];cases cb (run AP k n) k false af (cz.map .pv) [] [] with
           |none=>rfl
           |some q=>rfl
         ·rfl
   · funext g args sh ts
     cases AP g with
     |none=>rfl
     |some af=>
       dsimp only;split
       · rw[pg,ih];cases cb (run AP k n) k true af args sh ts with
         |none=>rfl
         |some q=>rfl
       ·rfl
theorem Uy{AP:Nat→Option aC}{k n g:Nat}{x rs:List PV}(h:(JA AP k n).p g x=some rs):(aF AP).p g x=some rs:=by
 rw[FZ]at h;exact tf (rQ g x) (show (run AP (max k n) (max k n)).p g x=some rs from (cN (Nat.le_max_right k n) (Nat.le_max_left k n)).p _ _ _ h)
def vm(AP:Nat→Option aC)(ov:Nat→List PV→Option (List PV))(k:Nat):Nat→eH
 |0=>{ p:=ov,i:=fun _ _ _ _=>none }
 |n+1=>
   { p:=fun g cz=>match ov g cz with
       |some r=>some r
       |none=>match AP g with
         |some af=>match af.rf with
           |some f=>f.f (vm AP ov k n).p cz
           |none=>if cz.length=af.nparams∧cz.length≤af.ntmps then wz (vm AP ov k n) k false af (cz.map .pv) [] [] fun rs _ _=>fJ rs else none
         |none=>none
     i:=fun g args sh ts=>match AP g with
       |some af=>if args.length≤af.ntmps then wz (vm AP ov k n) k true af args sh ts fun a b c=>some (a,b,c) else none
       |none=>none }
theorem Bs{AP:Nat→Option aC}{orc:eH}{k:Nat}{aV:Bool}{af:aC}{args:List AV}{sh:Sh}{ts:aG}{r:List AV×Sh×aG}(hle:orc.le (aF AP))(h:cb orc k aV af args sh ts=some r):nN AP aV af args sh ts=some r:=by
 rw[gg]at h;unfold nN;cases hc:cP orc k af.body { env:=ca 0 args,mem:=[],sh,aa:=ts } with
 |none=>rw[hc]at h;simp[finish]at h
 |some q=>
   rw[jY (cp hle (Nat.le_refl k) hc)];rw[hc]at h;exact h
theorem F1{AP:Nat→Option aC}{ov:Nat→List PV→Option (List PV)}{k:Nat}(hov:∀g x r,ov g x=some r→(aF AP).p g x=some r):∀n,(vm AP ov k n).le (aF AP)
 |0=>⟨hov,fun g x s t r h=>by simp[vm]at h⟩
 |n+1=>by
   have ih:=F1 (k:=k) hov n;refine⟨fun g x r h=>?_,fun g x s t r h=>?_⟩
   · simp only[vm]at h;split at h
     ·rename_i r' e;rw[←h];exact hov g x r' e
     · split at h
       · rename_i af hg;cases hp:af.rf with
         |some f=>rw[hp]at h;rw[Og hg hp];exact f.mono ih.p h
         |none=>
           rw[hp]at h;simp only[Option.ite_none_right_eq_some]at h;obtain⟨⟨h1,h2⟩,h⟩:=h;rw[pg]at h;rw[Qa hg hp h1 h2];cases hb:cb (vm AP ov k n) k false af (x.map .pv) [] [] with
           |none=>rw[hb]at h;simp[Jz]at h
           |some q=>rw[Bs ih hb];rw[hb]at h;exact h
       ·cases h
   · simp only[vm]at h;split at h
     · rename_i af hg;simp only[Option.ite_none_right_eq_some]at h;obtain⟨h2,h⟩:=h;rw[pg]at h;rw[Qb hg h2];cases hb:cb (vm AP ov k n) k true af x s t with
       |none=>rw[hb]at h;simp[Jz]at h
       |some q=>rw[Bs ih hb];rw[hb]at h;exact h
     ·cases h
theorem Qf{AP:Nat→Option aC}{ov:Nat→List PV→Option (List PV)}{k n g:Nat}{x rs:List PV}(hov:∀g x r,ov g x=some r→(aF AP).p g x=some r)(h:(vm AP ov k n).p g x=some rs):(aF AP).p g x=some rs:=(F1 hov n).p _ _ _ h
end Go.Ab.Fc
namespace Go.Ab
section
variable {P:Program} {ns:Names} {w w':World}
theorem RO.below{K:bm}(h:RO K w)(hb:RowKit.Below w.heap.size w w'):RO K w':=by
 intro b o v hk;have h1:=h b o v hk
 have hlt:b<w.heap.size:=by
   simp only[World.cell?]at h1;cases hc:w.heap[b]? with
   |none=>rw[hc]at h1;simp at h1
   |some c=>exact (Array.getElem?_eq_some_iff.1 hc).1
 have h2:=hb.block b hlt;simp only[World.cell?,h2]at h1⊢;exact h1
def lF:List PV→Option (List (List UInt8))
 |[]=>some []
 | .str s::r=>(lF r).map (s::·)
 |_=>none
theorem tX:∀{els:List PV} {xs:List (List UInt8)},lF els=some xs→els=xs.map .str
 |[],xs,h=>by simp[lF]at h;subst h;rfl
 | .str s::r,xs,h=>by
   simp only[lF,Option.map_eq_some_iff]at h;obtain⟨ys,h1,rfl⟩:=h;rw[tX h1];rfl
 | .bool _::r,_,h=>by simp[lF]at h
 | .int _ _::r,_,h=>by simp[lF]at h
 | .aw _::r,_,h=>by simp[lF]at h
 | .agg _::r,_,h=>by simp[lF]at h
def Mn:List PV→Option (List PV)
 |[.aw els,.str sep]=>match lF els with
   |some xs=>if xs.length≤1000000000∧(Lib.join xs sep).length≤140737488355328 then some [.str (Lib.join xs sep)] else none
   |none=>none
 |_=>none
def Ws:List PV→Option (List PV)
 |[.int .i64 n]=>if 0≤n∧n<100 then some [.str (Lib.decDigits n.toNat)] else none
 |_=>none
def yl:List PV→Option (List PV)
 |[.int .i64 n]=>if -9223372036854775808≤n∧n≤9223372036854775807 then some [.str (Lib.itoa n)] else none
 |_=>none
def ym:Array Value:=(Lib.pow10Tab.map fun z=>Value.int .u64 z).toArray
theorem EU {f:FuncId} {g:Nat} (hpin:ns.l5 g=some ym) (hg:P.globalNamed "internal/strconv.uint64pow10"=some g)
   (h:∀n:Int,-9223372036854775808≤n→n≤9223372036854775807→∀w:World,Lib.TabIs P w "internal/strconv.uint64pow10" .u64 Lib.pow10Tab →
     Calls P f #[.int .i64 n] w fun e w'=>e=.returned (.string ⟨(Lib.itoa n).toArray⟩)∧∃k os,w'=Go.Sort.grow (w.drewN k) os) :
   ∀cz rs,yl cz=some rs→zF P ns f cz rs:=by
 intro cz rs hp K w vs hw hk hr;unfold yl at hp;split at hp
 · rename_i n;simp only[Option.ite_none_right_eq_some,Option.some.injEq]at hp;obtain⟨⟨h0,h1⟩,rfl⟩:=hp;simp only[jL]at hr;obtain⟨v,r,rfl,hv,rfl⟩:=hr;have hv:v=.int .i64 n:=by simpa[Rel,R] using hv
   subst hv
   have htab:Lib.TabIs P w "internal/strconv.uint64pow10" .u64 Lib.pow10Tab:=by
     obtain⟨t,z,hh⟩:=hw g _ hpin;unfold Lib.TabIs World.var?
     rw[hg,Option.bind_some,hh];rfl
   refine (h n h0 h1 w htab).mono ?_
   rintro e w' ⟨rfl,k,os,rfl⟩
   have hb:RowKit.Below w.heap.size w (Go.Sort.grow (w.drewN k) os):=⟨rfl,rfl,rfl,by simp[Go.Sort.grow],fun b hb=>by
     simp only[Go.Sort.grow,World.heap_drewN];rw[Array.getElem?_append_left hb]⟩
   exact⟨_,K,rfl,by simp[jv,Rel,R],K.le_refl,fun _ _ _ _ h=>h,hk.below hb,hb⟩
 ·simp at hp
theorem F2{K:bm}:∀{xs:List (List UInt8)} {b o sz:Nat},Row K b o sz (xs.map .str)→xs≠[]→∀(j:Nat) (x:List UInt8),xs[j]?=some x→K b (o+j)=some (.string ⟨x.toArray⟩)
 |[],_,_,_,_,h,_,_,_=>absurd rfl h
 |y::r,b,o,sz,hr,_,j,x,hj=>by
   simp only[List.map_cons,Row,R]at hr;obtain⟨⟨vs,h1,h2,rfl⟩,h4⟩:=hr;simp only[List.length_cons,List.length_nil]at h1;subst h1;cases j with
   |zero=>
     simp at hj;subst hj;exact h2 0 _ rfl
   |succ j=>
     have hj':r[j]?=some x:=(by simpa using hj);have:=F2 h4 (by intro e;subst e;simp at hj') j x hj'
     rwa [show o+(0+1)+j=o+(j+1) by omega]at this
theorem TC{f:FuncId}
   (h0:∀(a:Option Addr) (c:Nat) (sep:ByteArray) (w:World),Calls P f #[.slice a 0 c,.string sep] w fun e w'=>e=.returned (.string ⟨#[]⟩)∧w'=w)
   (h:∀(bk o c:Nat) (xs:List ByteArray) (sep:ByteArray) (w:World),(∀(j:Nat) x,xs[j]?=some x→w.cell? ⟨bk,o+j,none⟩=some (.string x))→bk<w.heap.size→xs.length≤140737488355328→xs.length≤c →
     (Lib.join (xs.map (·.data.toList)) sep.data.toList).length≤140737488355328 →
     Calls P f #[.slice (some ⟨bk,o,none⟩) xs.length c,.string sep] w fun e w'=>e=.returned (.string ⟨(Lib.join (xs.map (·.data.toList)) sep.data.toList).toArray⟩)∧RowKit.Below w.heap.size w w') :
   ∀cz rs,Mn cz=some rs→zF P ns f cz rs:=by
 intro cz rs hp K w vs _ hk hr;unfold Mn at hp;split at hp
 · rename_i els sep;split at hp
   · rename_i xs hxs;simp only[Option.ite_none_right_eq_some,Option.some.injEq]at hp;obtain⟨⟨hn,hl⟩,rfl⟩:=hp;have:=tX hxs;subst this;simp only[jL]at hr;obtain⟨v,r,rfl,hv,u,r',rfl,hu,rfl⟩:=hr;have hu:u=.string ⟨sep.toArray⟩:=by simpa[Rel,R] using hu
     subst hu;obtain⟨base,len,cap,rfl,hlc,hlen,hrow⟩:=bP.1 hv;by_cases hnil:xs=[]
     · subst hnil;simp at hlen;subst hlen;refine (h0 base cap _ w).mono ?_
       rintro e w' ⟨rfl,rfl⟩
       exact⟨_,K,rfl,by simp[jv,Rel,R,Lib.join_nil],K.le_refl,fun _ _ _ _ h=>h,hk,RowKit.Below.refl _ _⟩
     · obtain⟨b,o,sz,rfl,hrow'⟩:=hrow.resolve_left (by simpa using hnil);have hx:=F2 hrow' hnil;have hxl:(xs.map fun x=>(⟨x.toArray⟩:ByteArray)).length=len:=by simpa using hlen
       have hdat:(xs.map fun x=>(⟨x.toArray⟩:ByteArray)).map (fun x=>x.data.toList)=xs:=by
         rw[List.map_map];have:((fun x:ByteArray=>x.data.toList) ∘ fun x:List UInt8=>(⟨x.toArray⟩:ByteArray))=id:=by funext x;rfl
         rw[this,List.map_id]
       have hb:b<w.heap.size:=by
         cases xs with
         |nil=>exact absurd rfl hnil
         |cons x r=>
           have h1:=hk _ _ _ (hx 0 x rfl);simp only[World.cell?]at h1;cases hc:w.heap[b]? with
           |none=>rw[hc]at h1;simp at h1
           |some c=>exact (Array.getElem?_eq_some_iff.1 hc).1
       have hc:=h b o cap (xs.map fun x=>(⟨x.toArray⟩:ByteArray)) ⟨sep.toArray⟩ w (by
         intro j x hj;simp only[List.getElem?_map,Option.map_eq_some_iff]at hj;obtain⟨y,hy,rfl⟩:=hj;exact hk _ _ _ (hx j y hy)) hb (by simp;omega) (by rw[hxl];exact hlc) (by rw[hdat];exact hl)
       rw[hxl,hdat]at hc;refine hc.mono ?_
       rintro e w' ⟨rfl,hbw⟩
       exact⟨_,K,rfl,by simp[jv,Rel,R],K.le_refl,fun _ _ _ _ h=>h,hk.below hbw,hbw⟩
   ·simp at hp
 ·simp at hp
end
end Go.Ab
namespace Go.Ab
section
variable {P:Program} {w:World}
def Mo(g:Nat):Nat→Option (Array Value):=fun b=>if b=g then some ym else none
theorem JB(g:Nat):Mo g g=some ym:=if_pos rfl
theorem EV {g:Nat} (hg:P.globalNamed "internal/strconv.uint64pow10"=some g) (h:Lib.TabIs P w "internal/strconv.uint64pow10" .u64 Lib.pow10Tab):Oa (Mo g) w:=by
 intro b c e;unfold Mo at e;simp only[Option.ite_none_right_eq_some,Option.some.injEq]at e;obtain⟨rfl,rfl⟩:=e;unfold Lib.TabIs World.var? at h;rw[hg,Option.bind_some]at h;split at h
 ·rename_i cs t z hh;cases h;exact⟨t,z,hh⟩
 ·cases h
theorem wA{x:String×DataW Unit}{r:List (String×DataW Unit)}(h:laidMet P (x::r) w):laidMet P r w:=by
 obtain⟨ps,hv,hnd,hrows⟩:=h;obtain⟨n,d⟩:=x;obtain⟨g,t,cs,fuel,p,q,_,_,_,_,hq,rfl⟩:=hv;exact⟨q,hq,List.Nodup.sublist (List.sublist_append_right _ _) hnd,fun b off hm=>hrows b off (List.mem_append_right _ hm)⟩
theorem tY {g t e:Nat} {x y:String×DataW Unit} {d:DataW Unit} (hg:P.globalNamed "internal/strconv.uint64pow10"=some g) (hty:(P.globals[g]?).map (·.type)=some t) (ht:P.underlying t=some (.array 20 e))
   (he:P.underlying e=some (.int .u64)) (hce:P.cellsOf e=1) (hct:P.cellsOf t=20) (hd:d=Lib.tabData .u64 Lib.pow10Tab) (h:laidMet P [x,y,("internal/strconv.uint64pow10",d)] w):Oa (Mo g) w:=by
 subst hd;exact EV hg (Lib.tabIs_of_head hg hty ht he hce hct (wA (wA h)))
end
end Go.Ab
namespace Go.Ab
open Ev
def EW(o:Nat→List PV→Option (List PV))(g:Nat):List PV→Option (List UInt8)
 |[]=>some []
 |d::r=>match o g [d] with
   |some [.str s]=>(EW o g r).map (s++·)
   |_=>none
def F3(n:Nat):PV→Bool
 | .agg cs=>cs.length == n && cs.all gW
 |_=>false
def Mp(gd gb:Nat)(o:Nat→List PV→Option (List PV)):List PV→Option (List PV)
 |[.agg [.aw ds,.aw bs]]=>
   if ds.all (F3 4)=true∧bs.all (F3 20)=true∧ds.length<4611686018427387904∧bs.length<4611686018427387904 then
     match EW o gd ds,EW o gb bs with
     |some a,some b=>if (a++b).length≤140737488355328 then some [.str (a++b)] else none
     |_,_=>none
   else none
 |_=>none
theorem tZ{o:Nat→List PV→Option (List PV)}{g:Nat}:∀{l:List PV} {s:List UInt8},EW o g l=some s →
   ∃c:List (Nat×List PV×List PV),(∀x∈c,o x.1 x.2.1=some x.2.2)∧∀o',(∀x∈c,o' x.1 x.2.1=some x.2.2)→EW o' g l=some s
 |[],s,h=>⟨[],by simp,fun _ _=>h⟩
 |d::r,s,h=>by
   simp only[EW]at h;split at h
   · rename_i t ht;simp only[Option.map_eq_some_iff]at h;obtain⟨u,hu,rfl⟩:=h;obtain⟨c,h1,h2⟩:=tZ hu;refine⟨(g,[d],[.str t])::c,?_,fun o' ho=>?_⟩
     · intro x hx;simp only[List.mem_cons]at hx;rcases hx with rfl|hx
       ·exact ht
       ·exact h1 x hx
     ·have e1:=ho _ (List.mem_cons_self);simp only[EW,e1,h2 o' (fun x hx=>ho x (List.mem_cons_of_mem _ hx)),Option.map_some]
   ·cases h
def WV(gd gb:Nat):Prim:=⟨Mp gd gb,by
 intro o x r h;unfold Mp at h;split at h
 · rename_i ds bs;rw[Option.ite_none_right_eq_some]at h;obtain⟨hc,h⟩:=h;split at h
   · rename_i a b ha hb;obtain⟨c1,f1,f2⟩:=tZ ha;obtain⟨c2,k1,k2⟩:=tZ hb;refine⟨c1++c2,?_,fun o' ho=>?_⟩
     · intro x hx;rcases List.mem_append.1 hx with hx|hx
       ·exact f1 x hx
       ·exact k1 x hx
     ·unfold Mp;simp only;rw[if_pos hc,f2 o' (fun x hx=>ho x (List.mem_append_left _ hx)),k2 o' (fun x hx=>ho x (List.mem_append_right _ hx))];exact h
   ·cases h
 ·cases h⟩
section
variable {T E:TypeId} {B b:Nat} {w w':World}
end
section
variable {P:Program} {ns:Names}
end
end Go.Ab
