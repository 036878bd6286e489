import Derived.Test.YthcoecdbgdhihaaGreatDoorAbLim
/-
  Rules for running slim code by the simplifier: each is an equation on constructors.
-/
set_option linter.unusedVariables false
set_option linter.unusedSimpArgs false
set_option linter.unnecessarySimpa false
set_option maxRecDepth 100000
set_option maxHeartbeats 8000000
namespace Go.Ab.Ev
section
variable {AP:Nat→Option aD} {O:ep}
noncomputable def branch (AP:Nat→Option aD) (o:Option AV) (a b:au) (st:St):Option (bH×St):=
 match o with
 | some (.pv (.bool t))=>if t=true then cl AP a st else cl AP b st
 | _=>none
theorem DW {c:e8} {a b:au} {st:St}:cl AP (.cond c a b) st=branch AP (gY st.env c) a b st:=by
 unfold branch;split
 · rename_i t h;rw [JT h]
 · rename_i h;unfold cl;refine rK fun k=>?_
   simp only [de]
theorem xQ {t:Bool} {a b:au} {st:St}:branch AP (some (.pv (.bool t))) a b st=if t=true then cl AP a st else cl AP b st:=rfl
def rN (live:List Nat):Option St→Option (bH×St)
 | some st=>some (.normal,restrict live st)
 | none=>none
theorem DX {ops:List dv} {live:List Nat} {st:St}:cl AP (.bl ops live) st=rN live (bQ (aP AP) ops st):=by
 rw [MG];cases bQ (aP AP) ops st<;>rfl
theorem xS {live:List Nat} {st:St}:rN live (some st)=some (.normal,restrict live st):=rfl
theorem Ad {live:List Nat} {c:Prop} [Decidable c] {x y:Option St}:rN live (if c then x else y)=if c then rN live x else rN live y:=by split<;>rfl
theorem vz {f:St→Option (bH×St)} {st:St}:after f (some (.normal,st))=f st:=rfl
theorem DY {f:St→Option (bH×St)} {st:St}:after f (some (.ret,st))=some (.ret,st):=rfl
theorem Ae {f:St→Option (bH×St)} {st:St} {id:Nat}:after f (some (.exit id,st))=some (.exit id,st):=rfl
theorem DZ {f:St→Option (bH×St)} {c:Prop} [Decidable c] {x y:Option (bH×St)}:after f (if c then x else y)=if c then after f x else after f y:=by split<;>rfl
theorem vA {id:Nat} {st:St}:leave id (some (.normal,st))=some (.normal,st):=rfl
theorem D0 {id:Nat} {st:St}:leave id (some (.ret,st))=some (.ret,st):=rfl
theorem Af {id id':Nat} {st:St}:leave id (some (.exit id',st))=if id'=id then some (.normal,st) else some (.exit id',st):=rfl
theorem D1 {id:Nat} {c:Prop} [Decidable c] {x y:Option (bH×St)}:leave id (if c then x else y)=if c then leave id x else leave id y:=by split<;>rfl
def l9 (O:ep) (l:List dv):Option St→Option St
 | some st=>bQ O l st
 | none=>none
theorem D2 {st:St}:bQ O [] st=some st:=rfl
theorem kx {o:dv} {l:List dv} {st:St}:bQ O (o::l) st=l9 O l (eg O o st):=by
 simp only [bQ];cases eg O o st<;>rfl
theorem Ag {d:Option Nat} {args:List e8} {op:AK} {l:List dv} {st:St}:bQ O (⟨d,none,args,op⟩::l) st=l9 O l (eg O ⟨d,none,args,op⟩ st):=kx
theorem vB {l:List dv} {st:St}:l9 O l (some st)=bQ O l st:=rfl
theorem xT {l:List dv} {c:Prop} [Decidable c] {x y:Option St}:l9 O l (if c then x else y)=if c then l9 O l x else l9 O l y:=by split<;>rfl
def rO (d k:Option Nat) (env:List (Nat×AV)) (mem:List (Nat×List AV)):Option Out→Option St
 | some out=>some { env:=fY env d out.val,mem:=e_ mem k out.cells,sh:=out.sh,ah:=out.ah }
 | none=>none
def GP (O:ep) (op:AK) (vals:Option (List AV)) (cells:Option (List AV)) (sh:Sh) (ah:aN):Option Out:=
 match vals with
 | some vals=>exec O op vals cells sh ah
 | none=>none
theorem Ah {d:Option Nat} {args:List e8} {op:AK} {env:List (Nat×AV)} {mem:List (Nat×List AV)} {sh:Sh} {ah:aN} :
   eg O ⟨d,none,args,op⟩ ⟨env,mem,sh,ah⟩=rO d op.key env mem (GP O op (ei env args) (op.key.bind (look mem)) sh ah):=by
 simp only [eg,fG];cases ei env args with
 | none=>rfl
 | some vals=>
   dsimp only [GP];cases exec O op vals (op.key.bind (look mem)) sh ah<;>rfl
def rP (t:Nat) (b:Bool) (o:dv):dv:=
 match o.guard with
 | some (t',b')=>if t'=t then (if b'=b then { o with guard:=none } else ⟨o.dst,none,[.c .un],.v .mv⟩) else o
 | none=>o
def D3 (t:Nat):List dv→Bool
 | []=>true
 | o::l=>(o.dst != some t) && D3 t l
theorem l_ {α:Type} {t t':Nat} {v:α}:∀{l:List (Nat×α)},look (dO l t v) t'=if t'=t then some v else look l t'
 | []=>by
   simp only [dO,look];by_cases h:t'=t
   · subst h;simp
   · rw [if_neg (fun e=>h e.symm),if_neg h]
 | (k,u)::r=>by
   simp only [dO];by_cases hk:k=t
   · subst hk;simp only [if_true,look];by_cases h:t'=k
     · subst h;simp
     · rw [if_neg (fun e=>h e.symm),if_neg h,if_neg (fun e=>h e.symm)]
   · rw [if_neg hk];simp only [look,l_ (l:=r)];by_cases h:k=t'
     · subst h;simp [hk]
     · rw [if_neg h,if_neg h]
theorem oN {α:Type} {t:Nat} {v:α}:∀{l:List (Nat×α)},look l t=some v→dO l t v=l
 | [],h=>by simp [look] at h
 | (k,u)::r,h=>by
   simp only [look] at h;simp only [dO];split at h
   · rename_i e;cases h;rw [if_pos e]
   · rename_i e;rw [if_neg e,oN h]
theorem D4 {o:dv} {st st':St} {t:Nat} {v:AV} (hd:(o.dst != some t)=true) (h:look st.env t=some v) (e:eg O o st=some st'):look st'.env t=some v:=by
 have key:∀x,look (fY st.env o.dst x) t=some v:=by
   intro x;cases hdd:o.dst with
   | none=>exact h
   | some d=>
     rw [hdd] at hd;simp only [fY,l_];rw [if_neg (by intro e;subst e;simp at hd)];exact h
 simp only [eg] at e;split at e
 · cases e
 · cases e;exact key _
 · split at e
   · cases e
   · split at e
     · cases e
     · cases e;exact key _
theorem D5 {o:dv} {st:St} {t:Nat} {b:Bool} (h:look st.env t=some (.pv (.bool b))):eg O o st=eg O (rP t b o) st:=by
 obtain ⟨d,g,args,op⟩:=o;cases g with
 | none=>rfl
 | some p=>
   obtain ⟨t',b'⟩:=p;simp only [rP];by_cases ht:t'=t
   · subst ht;rw [if_pos rfl];by_cases hb:b'=b
     · subst hb;rw [if_pos rfl];simp only [eg,fG,h,beq_self_eq_true]
     · rw [if_neg hb];have hb':(b == b')=false:=by simpa using fun e=>hb e.symm
       simp only [eg,fG,h,hb'];obtain ⟨env,mem,sh,ah⟩:=st;rfl
   · rw [if_neg ht]
theorem m5 {t:Nat} {b:Bool}:∀{l:List dv} {st:St},D3 t l=true→look st.env t=some (.pv (.bool b))→bQ O l st=bQ O (l.map (rP t b)) st
 | [],_,_,_=>rfl
 | o::l,st,hn,h=>by
   simp only [D3,Bool.and_eq_true] at hn;rw [List.map_cons,kx,kx,←D5 h];cases e:eg O o st with
   | none=>rfl
   | some st'=>exact m5 hn.2 (D4 hn.1 h e)
theorem xU {d:Option Nat} {t:Nat} {b:Bool} {args:List e8} {op:AK} {l:List dv} {env:List (Nat×AV)} {mem:List (Nat×List AV)} {sh:Sh} {ah:aN} {c:Bool} (h:look env t=some (.pv (.bool c))) (hn:D3 t (⟨d,some (t,b),args,op⟩::l)=true) :
   bQ O (⟨d,some (t,b),args,op⟩::l) ⟨env,mem,sh,ah⟩ =
     if c=true then bQ O ((⟨d,some (t,b),args,op⟩::l).map (rP t true)) ⟨dO env t (.pv (.bool true)),mem,sh,ah⟩
     else bQ O ((⟨d,some (t,b),args,op⟩::l).map (rP t false)) ⟨dO env t (.pv (.bool false)),mem,sh,ah⟩:=by
 cases c with
 | true=>rw [if_pos rfl,oN h];exact m5 hn h
 | false=>rw [if_neg (by simp),oN h];exact m5 hn h
theorem vC {d:Option Nat} {t:Nat} {b:Bool} {args:List e8} {op:AK} {l:List dv} {env:List (Nat×AV)} {mem:List (Nat×List AV)} {sh:Sh} {ah:aN} (h:look env t=some .un) :
   bQ O (⟨d,some (t,b),args,op⟩::l) ⟨env,mem,sh,ah⟩=bQ O l ⟨fY env d .un,mem,sh,ah⟩:=by
 rw [kx];simp only [eg,fG,h];rfl
noncomputable def gd (O:ep) (t:Nat) (ops:List dv) (d:Option Nat) (l:List dv) (env:List (Nat×AV)) (mem:List (Nat×List AV)) (sh:Sh) (ah:aN):Option AV→Option St
 | some (.pv (.bool c))=>if D3 t ops=true then (if c=true then bQ O (ops.map (rP t true)) ⟨dO env t (.pv (.bool true)),mem,sh,ah⟩
     else bQ O (ops.map (rP t false)) ⟨dO env t (.pv (.bool false)),mem,sh,ah⟩) else bQ O ops ⟨env,mem,sh,ah⟩
 | some .un=>bQ O l ⟨fY env d .un,mem,sh,ah⟩
 | _=>bQ O ops ⟨env,mem,sh,ah⟩
theorem GQ {d:Option Nat} {t:Nat} {b:Bool} {args:List e8} {op:AK} {l:List dv} {env:List (Nat×AV)} {mem:List (Nat×List AV)} {sh:Sh} {ah:aN} :
   bQ O (⟨d,some (t,b),args,op⟩::l) ⟨env,mem,sh,ah⟩=gd O t (⟨d,some (t,b),args,op⟩::l) d l env mem sh ah (look env t):=by
 unfold gd;split
 · rename_i c h;split
   · rename_i hn;exact xU h hn
   · rfl
 · rename_i h;exact vC h
 · rfl
theorem JV {t:Nat} {ops:List dv} {d:Option Nat} {l:List dv} {env:List (Nat×AV)} {mem:List (Nat×List AV)} {sh:Sh} {ah:aN} {c:Bool}:gd O t ops d l env mem sh ah (some (.pv (.bool c))) =
   if D3 t ops=true then (if c=true then bQ O (ops.map (rP t true)) ⟨dO env t (.pv (.bool true)),mem,sh,ah⟩
     else bQ O (ops.map (rP t false)) ⟨dO env t (.pv (.bool false)),mem,sh,ah⟩) else bQ O ops ⟨env,mem,sh,ah⟩:=rfl
theorem Ol {t:Nat} {ops:List dv} {d:Option Nat} {l:List dv} {env:List (Nat×AV)} {mem:List (Nat×List AV)} {sh:Sh} {ah:aN}:gd O t ops d l env mem sh ah (some .un)=bQ O l ⟨fY env d .un,mem,sh,ah⟩:=rfl
theorem JW {t:Nat}:D3 t []=true:=rfl
theorem GR {t d:Nat} {g:Option (Nat×Bool)} {args:List e8} {op:AK} {l:List dv}:D3 t (⟨some d,g,args,op⟩::l)=(!(decide (d=t)) && D3 t l):=by
 simp only [D3];congr 1
theorem GS {t:Nat} {g:Option (Nat×Bool)} {args:List e8} {op:AK} {l:List dv}:D3 t (⟨none,g,args,op⟩::l)=D3 t l:=by
 simp [D3]
theorem D6 {t:Nat} {b:Bool} {d:Option Nat} {args:List e8} {op:AK}:rP t b ⟨d,none,args,op⟩=⟨d,none,args,op⟩:=rfl
theorem D7 {t t':Nat} {b b':Bool} {d:Option Nat} {args:List e8} {op:AK}:rP t b ⟨d,some (t',b'),args,op⟩=if t'=t then (if b'=b then ⟨d,none,args,op⟩ else ⟨d,none,[.c .un],.v .mv⟩) else ⟨d,some (t',b'),args,op⟩:=rfl
theorem xW {d k:Option Nat} {env:List (Nat×AV)} {mem:List (Nat×List AV)} {v:AV} {cs:Option (List AV)} {sh:Sh} {ah:aN} :
   rO d k env mem (some ⟨v,cs,sh,ah⟩)=some ⟨fY env d v,e_ mem k cs,sh,ah⟩:=rfl
theorem Ai {d k:Option Nat} {env:List (Nat×AV)} {mem:List (Nat×List AV)} {c:Prop} [Decidable c] {x y:Option Out}:rO d k env mem (if c then x else y)=if c then rO d k env mem x else rO d k env mem y:=by split<;>rfl
theorem Aj {op:AK} {vals:List AV} {cells:Option (List AV)} {sh:Sh} {ah:aN}:GP O op (some vals) cells sh ah=exec O op vals cells sh ah:=rfl
def GU (sh:Sh) (ah:aN):Option AV→Option Out
 | some x=>some ⟨x,none,sh,ah⟩
 | none=>none
theorem D9 {sh:Sh} {ah:aN} {x:AV}:GU sh ah (some x)=some ⟨x,none,sh,ah⟩:=rfl
variable {vals:List AV} {cells:Option (List AV)} {sh:Sh} {ah:aN}
theorem MI {o:s9}:exec O (.v o) vals cells sh ah=GU sh ah (cf o vals):=by
 show (cf o vals).map _=_;cases cf o vals<;>rfl
theorem ib {key off sz d o:Nat} {ag:Bool} {cs:List AV}:exec O (.aU key off sz ag) [.aG d o] (some cs) sh ah=if d=key∧o=off then GU sh ah (cA ag sz cs off) else none:=by
 show (if d=key∧o=off then (cA ag sz cs off).map _ else none)=_;cases cA ag sz cs off<;>rfl
theorem iy {key off sz d o:Nat} {v:AV} {cs:List AV}:exec O (.cV key off sz) [.aG d o,v] (some cs) sh ah =
   if d=key∧o=off∧(bF v).length=sz∧(bF v).all bp=true then if off+sz≤cs.length then some ⟨.un,some (bn cs off (bF v)),sh,ah⟩ else none else none:=rfl
theorem jd {key:Nat} {zero:List PV}:exec O (.alloc key zero) [] none sh ah=some ⟨.aG key 0,some (zero.map cf.zeroCell),sh,ah⟩:=rfl
theorem ly {key sz:Nat} {v:AV}:exec O (.box key sz) [v] none sh ah=if (bF v).length=sz∧(bF v).all bp=true then some ⟨.aG key 0,some (bF v),sh,ah⟩ else none:=rfl
theorem xX {sz:Nat} {ag:Bool} {cs:List PV}:exec O (.bg sz ag) [.gf cs] cells sh ah=GU sh ah (df ag sz cs):=by
 show (df ag sz cs).map _=_;cases df ag sz cs<;>rfl
def vD (ag:Bool) (sz off:Nat):Option (Option (List AV))→Option AV
 | some (some cs)=>if dr cs=true then none else cA ag sz cs off
 | _=>none
theorem pR {ag:Bool} {sz off:Nat} {cs:List AV}:vD ag sz off (some (some cs))=if dr cs=true then none else cA ag sz cs off:=rfl
theorem xY {sz b off:Nat} {ag:Bool}:exec O (.bg sz ag) [.br b off] cells sh ah=GU sh ah (vD ag sz off sh[b]?):=by
 show (match sh[b]? with | some (some cs)=>if dr cs=true then none else (cA ag sz cs off).map _ | _=>none)=_;split
 · rename_i cs h;rw [h,pR];split
   · rfl
   · cases cA ag sz cs off<;>rfl
 · rename_i h;unfold vD;split
   · rename_i cs e;exact absurd e (h cs)
   · rfl
def vE (b off sz:Nat) (vs:List AV) (sh:Sh) (ah:aN):Option (Option (List AV))→Option Out
 | some (some cs)=>if dr cs=false∧vs.length=sz∧off+sz≤cs.length∧vs.all dS=true∧vs.all (aW (b+1))=true then some ⟨.un,none,sh.set b (some (bn cs off vs)),ah⟩ else none
 | _=>none
theorem nR {b off sz:Nat} {vs cs:List AV}:vE b off sz vs sh ah (some (some cs))=if dr cs=false∧vs.length=sz∧off+sz≤cs.length∧vs.all dS=true∧vs.all (aW (b+1))=true then some ⟨.un,none,sh.set b (some (bn cs off vs)),ah⟩ else none:=rfl
theorem iz {sz b off:Nat} {v:AV}:exec O (.cd sz) [.br b off,v] cells sh ah=vE b off sz (cY v) sh ah sh[b]?:=by
 show (match sh[b]? with | some (some cs)=>_ | _=>none)=_;split
 · rename_i cs h;rw [h,nR]
 · rename_i h;unfold vE;split
   · rename_i cs e;exact absurd e (h cs)
   · rfl
theorem l0 {sz:Nat} {v:AV}:exec O (.mz sz) [v] cells sh ah=if (cY v).length=sz∧(cY v).all dS=true∧(cY v).all (aW sh.length)=true then some ⟨.br sh.length 0,none,sh++[some (cY v)],ah⟩ else none:=rfl
theorem jx {zero:List PV}:exec O (.iX zero) [] cells sh ah=some ⟨.br sh.length 0,none,sh++[some (zero.map cf.zeroCell)],ah⟩:=rfl
theorem kh {sz bytes:Nat} {ag:Bool} {zero:List PV} {k k':IntKind} {n n':Int}:exec O (.ir sz bytes ag zero) [.pv (.int k n),.pv (.int k' n')] cells sh ah =
   if n=n'∧0≤n∧n≤9223372036854775807∧n*bytes≤140737488355328∧zero.length=sz then some ⟨.bE sh.length sz n.toNat ag,none,sh++[some ((List.replicate n.toNat (zero.map .pv)).flatten)],ah⟩ else none:=rfl
theorem je {key sz bytes:Nat} {zero:List PV} {k k':IntKind} {n n':Int}:exec O (.iY key sz bytes zero) [.pv (.int k n),.pv (.int k' n')] none sh ah =
   if n=n'∧0≤n∧n≤9223372036854775807∧n*bytes≤140737488355328∧zero.length=sz then some ⟨.jP key n.toNat,some ((List.replicate n.toNat (zero.map .pv)).flatten),sh,ah⟩ else none:=rfl
theorem D_ {d s b:Nat} {z:List PV}:AK.key (.iY d s b z)=some d:=rfl
theorem Ak {live:List Nat} {d n:Nat}:en live (.jP d n)=live.contains d:=rfl
theorem GV {α:Type} {d:Nat}:tc d ([]:List (Nat×α))=[]:=rfl
theorem D' {α:Type} {d k:Nat} {v:α} {r:List (Nat×α)}:tc d ((k,v)::r)=if k=d then tc d r else (k,v)::tc d r:=rfl
def Rm (ts:List Nat) (st:St):Option AV→St
 | some (.bE b _ _ _)=>match st.sh[b]? with
   | some (some cells)=>if dr cells=false then { st with env:=zL b st.sh.length ts st.env,sh:=st.sh.set b none++[some cells] } else st
   | _=>st
 | _=>st
def Rn (r:List Nat) (st:St):Option AV→St
 | some (.bE b _ _ _)=>match st.sh[b]? with
   | some (some cells)=>if dr cells=false∧(fm (.agg cells)).contains b=false then
       match dT st.sh cells with
       | some ps=>nq r { st with sh:=(d5 st.sh [.agg cells]).set b (some (ps.map .pv)) }
       | none=>nq r st
     else nq r st
   | _=>nq r st
 | _=>nq r st
def Om (ah:aN):Option (AV×Sh×aN)→Option Out
 | some (v,sh',ts)=>some ⟨v,none,sh',ts⟩
 | none=>none
theorem Ea {v:AV} {sh':Sh} {ts:aN}:Om ah (some (v,sh',ts))=some ⟨v,none,sh',ts⟩:=rfl
theorem xZ {sz bytes:Nat} {ag:Bool} {x:AV}:exec O (.gJ sz bytes ag) [x] cells sh ah=Om ah (fW (some ag) sz bytes x sh ah):=by
 show ((fW (some ag) sz bytes x sh ah).map _)=_;cases fW (some ag) sz bytes x sh ah<;>rfl
def vF (ag:Bool) (sz bytes:Nat) (sh:Sh) (ah:aN):Option (List PV)→Option (AV×Sh×aN)
 | some xs=>if bC sz xs=true then (if xs.isEmpty=true then some (.bM [],sh,ah) else if xs.length*bytes≤140737488355328 then some (.bE sh.length sz xs.length ag,sh++[some ((xs.flatMap bw).map .pv)],ah) else none) else none
 | none=>none
theorem Eb {ag:Bool} {sz bytes:Nat} {x:AV}:fW (some ag) sz bytes x sh ah=vF ag sz bytes sh ah (cR x):=by
 cases h:cR x with
 | none=>simp [fW,vF,h]
 | some xs=>
   simp only [fW,vF,h];split
   · unfold qc;split
     · rfl
     · split<;>rfl
   · rfl
theorem x4 {ag:Bool} {sz bytes:Nat} {xs:List PV}:vF ag sz bytes sh ah (some xs) =
   if bC sz xs=true then (if xs.isEmpty=true then some (.bM [],sh,ah) else if xs.length*bytes≤140737488355328 then some (.bE sh.length sz xs.length ag,sh++[some ((xs.flatMap bw).map .pv)],ah) else none) else none:=rfl
theorem Al {sz bytes:Nat} {ag:Bool}:(AK.gJ sz bytes ag).key=none:=rfl
theorem JX {p:PV} {r:List AV}:dr (.pv p::r)=false:=rfl
def On (ok:Bool) (z:PV) (sh:Sh) (ah:aN):Option (Option PV)→Option Out
 | some r=>some ⟨Cr ok z r,none,sh,ah⟩
 | none=>none
theorem tE {z:PV} {r:Option PV}:Cr false z r=.pv (r.getD z):=rfl
def Oo (c:CK) (ok:Bool) (z k:PV) (sh:Sh) (ah:aN):Option (Option (List AV))→Option Out
 | some (some [.fF kvs])=>On ok z sh ah (zI c kvs k)
 | _=>none
theorem Am {c:CK} {ok:Bool} {z k:PV} {kvs:List (PV×PV)}:Oo c ok z k sh ah (some (some [.fF kvs]))=On ok z sh ah (zI c kvs k):=rfl
def kU (s:Nat) (sh:Sh) (ah:aN):Option (List (PV×PV))→Option Out
 | some kvs=>some ⟨.un,none,sh.set s (some [.fF kvs]),ah⟩
 | none=>none
theorem Ec {s:Nat} {kvs:List (PV×PV)}:kU s sh ah (some kvs)=some ⟨.un,none,sh.set s (some [.fF kvs]),ah⟩:=rfl
def QI (c:CK) (s:Nat) (k:PV) (sh:Sh) (ah:aN):Option (Option (List AV))→Option PV→Option Out
 | some (some [.fF kvs]),some p=>kU s sh ah (Gu c kvs k p)
 | _,_=>none
theorem Ed {c:CK} {s:Nat} {k p:PV} {kvs:List (PV×PV)}:QI c s k sh ah (some (some [.fF kvs])) (some p)=kU s sh ah (Gu c kvs k p):=rfl
def MJ (neg:Bool):Option Bool→Option AV
 | some b=>some (.pv (.bool (if neg then !b else b)))
 | none=>none
theorem Ee {neg b:Bool}:MJ neg (some b)=some (.pv (.bool (if neg then !b else b))):=rfl
def QJ (cs:List CK) (neg:Bool):Option PV→Option PV→Option AV
 | some (.agg ps),some (.agg qs)=>MJ neg (ef cs ps qs)
 | _,_=>none
theorem Ef {cs:List CK} {neg:Bool} {ps qs:List PV}:QJ cs neg (some (.agg ps)) (some (.agg qs))=MJ neg (ef cs ps qs):=rfl
def Eg (sh:Sh):Option (AV×aN)→Option Out
 | some (v,ts)=>some ⟨v,none,sh,ts⟩
 | none=>none
theorem Eh {v:AV} {ts:aN}:Eg sh (some (v,ts))=some ⟨v,none,sh,ts⟩:=rfl
theorem GW {c:Prop} [Decidable c] {x y:Option (AV×aN)}:Eg sh (if c then x else y)=if c then Eg sh x else Eg sh y:=by split<;>rfl
theorem jy {sz bytes:Nat} {s x:AV}:exec O (.append sz bytes) [s,x] cells sh ah=Eg sh (cD sz bytes s x ah):=by
 show (cD sz bytes s x ah).map _=_;cases cD sz bytes s x ah<;>rfl
theorem mR {sz bytes:Nat} {x:AV}:exec O (.clone sz bytes) [x] cells sh ah=Eg sh (cD sz bytes (.bM []) x ah):=by
 show (cD sz bytes (.bM []) x ah).map _=_;cases cD sz bytes (.bM []) x ah<;>rfl
def CE (sz bytes:Nat) (s:AV) (ah:aN):Option (List PV)→Option (AV×aN)
 | some xs=>if bC sz xs=true then
   match s with
   | .bM l=>if xs.isEmpty=true then some (.bM l,ah) else if bC sz l=true∧(l.length+xs.length)*bytes≤140737488355328 then
       some (.own (l++xs) ah.length,ah++[(l++xs).length]) else none
   | .own l τ=>if ah[τ]?=some l.length∧bC sz l=true∧(l.length+xs.length)*bytes≤140737488355328 then
       some (.own (l++xs) τ,ah.set τ (l++xs).length) else none
   | _=>none
   else none
 | none=>none
theorem tF {sz bytes:Nat} {s x:AV}:cD sz bytes s x ah=CE sz bytes s ah (cR x):=by
 unfold cD CE;cases cR x<;>rfl
theorem Ei {sz bytes:Nat} {l xs:List PV}:CE sz bytes (.bM l) ah (some xs)=if bC sz xs=true then if xs.isEmpty=true then some (.bM l,ah) else if bC sz l=true∧(l.length+xs.length)*bytes≤140737488355328 then
       some (.own (l++xs) ah.length,ah++[(l++xs).length]) else none else none:=rfl
theorem Ej {sz bytes τ:Nat} {l xs:List PV}:CE sz bytes (.own l τ) ah (some xs)=if bC sz xs=true then if ah[τ]?=some l.length∧bC sz l=true∧(l.length+xs.length)*bytes≤140737488355328 then
       some (.own (l++xs) τ,ah.set τ (l++xs).length) else none else none:=rfl
def Ek (ah:aN):Option (AV×Sh)→Option Out
 | some (v,sh)=>some ⟨v,none,sh,ah⟩
 | none=>none
theorem Em {v:AV} {sh:Sh}:Ek ah (some (v,sh))=some ⟨v,none,sh,ah⟩:=rfl
theorem GX {c:Prop} [Decidable c] {x y:Option (AV×Sh)}:Ek ah (if c then x else y)=if c then Ek ah x else Ek ah y:=by split<;>rfl
def GY (sz bytes:Nat) (ag:Bool) (s:AV) (sh:Sh) (ah:aN):Option (List PV)→Option Out
 | some xs=>if bC sz xs=true then Ek ah (qd sz bytes ag s xs sh ah) else none
 | none=>none
theorem Ao {sz bytes:Nat} {ag:Bool} {s:AV} {xs:List PV}:GY sz bytes ag s sh ah (some xs)=if bC sz xs=true then Ek ah (qd sz bytes ag s xs sh ah) else none:=rfl
theorem kj {sz bytes:Nat} {ag:Bool} {s x:AV}:exec O (.dd sz bytes ag) [s,x] cells sh ah=GY sz bytes ag s sh ah (cR x):=by
 simp only [exec,GY];cases cR x with
 | none=>rfl
 | some xs=>
   simp only;split
   · cases qd sz bytes ag s xs sh ah<;>rfl
   · rfl
def Ap (sz bytes:Nat) (ag:Bool) (b z n:Nat) (g:Bool) (xs:List PV) (sh:Sh):Option (Option (List AV))→Option (AV×Sh)
 | some (some cells)=>if z=sz∧g=ag∧dr cells=false∧n*sz≤cells.length∧(n+xs.length)*bytes≤140737488355328 then
       if xs.isEmpty=true then some (.bE b sz n ag,sh) else some (.bE sh.length sz (n+xs.length) ag,sh.set b none++[some (cells.take (n*sz)++(xs.flatMap bw).map .pv)])
     else none
 | _=>none
theorem x5 {sz bytes:Nat} {ag:Bool} {b z n:Nat} {g:Bool} {xs:List PV} {cells:List AV}:Ap sz bytes ag b z n g xs sh (some (some cells))=if z=sz∧g=ag∧dr cells=false∧n*sz≤cells.length∧(n+xs.length)*bytes≤140737488355328 then
       if xs.isEmpty=true then some (.bE b sz n ag,sh) else some (.bE sh.length sz (n+xs.length) ag,sh.set b none++[some (cells.take (n*sz)++(xs.flatMap bw).map .pv)])
     else none:=rfl
theorem GZ {sz bytes:Nat} {ag:Bool} {xs:List PV}:qd sz bytes ag (.bM []) xs sh ah=qc sz bytes ag (.bM []) xs sh:=rfl
theorem G5 {sz bytes τ:Nat} {ag:Bool} {xs:List PV}:qd sz bytes ag (.own [] τ) xs sh ah=if ah[τ]?=some 0 then qc sz bytes ag (.own [] τ) xs sh else none:=rfl
theorem Eo {sz bytes b z n:Nat} {ag g:Bool} {xs:List PV}:qd sz bytes ag (.bE b z n g) xs sh ah=Ap sz bytes ag b z n g xs sh sh[b]?:=by
 simp only [qd,Ap];rcases sh[b]? with _ | _ | cells<;>rfl
theorem JY {sz bytes:Nat} {ag:Bool} {s:AV} {xs:List PV}:qc sz bytes ag s xs sh=if xs.isEmpty=true then some (s,sh) else if xs.length*bytes≤140737488355328 then some (.bE sh.length sz xs.length ag,sh++[some ((xs.flatMap bw).map .pv)]) else none:=rfl
def MK (r:List Nat) (t:Nat) (st:St) (v:AV):Option PV→St
 | some p=>mN r { st with env:=dO st.env t (.pv p),sh:=d5 st.sh [v] }
 | none=>mN r (zJ v st)
def G8 (d:Nat) (cs:List AV) (st:St):Option (List PV)→St
 | some ps=>{ st with mem:=dO st.mem d (ps.map .pv),sh:=d5 st.sh [.agg cs] }
 | none=>st
def G9 (d:Nat) (st:St):Option (List AV)→St
 | some cs=>G8 d cs st (dT st.sh cs)
 | none=>st
theorem Ep {d:Nat} {st:St}:zJ (.aG d 0) st=G9 d st (look st.mem d):=by
 simp only [zJ];cases look st.mem d with
 | none=>rfl
 | some cs=>
   simp only [G9];cases dT st.sh cs<;>rfl
theorem Aq {d:Nat} {st:St} {cs:List AV}:G9 d st (some cs)=G8 d cs st (dT st.sh cs):=rfl
theorem Au {d:Nat} {st:St} {cs:List AV} {ps:List PV}:G8 d cs st (some ps)={ st with mem:=dO st.mem d (ps.map .pv),sh:=d5 st.sh [.agg cs] }:=rfl
def ML (r:List Nat) (t:Nat) (st:St):Option AV→St
 | some v=>MK r t st v (dR st.sh v)
 | none=>mN r st
theorem G_ {st:St}:mN [] st=st:=rfl
theorem Er {t:Nat} {r:List Nat} {st:St}:mN (t::r) st=ML r t st (look st.env t):=by
 simp only [mN];cases look st.env t with
 | none=>rfl
 | some v=>
   simp only [ML];cases dR st.sh v<;>rfl
theorem Es {r:List Nat} {t:Nat} {st:St} {v:AV}:ML r t st (some v)=MK r t st v (dR st.sh v):=rfl
theorem Et {r:List Nat} {t:Nat} {st:St} {v:AV}:MK r t st v none=mN r (zJ v st):=rfl
def MM (ah:aN):Option Sh→Option Out
 | some sh=>some ⟨.pg [],none,sh,ah⟩
 | none=>none
theorem Eu {sh:Sh}:MM ah (some sh)=some ⟨.pg [],none,sh,ah⟩:=rfl
def rQ (sz:Nat) (zero:List PV) (sh:Sh) (b off n:Nat):Option (Option (List AV))→Option Sh
 | some (some cells)=>if dr cells=false∧off+n*sz≤cells.length∧zero.length=sz then some (sh.set b (some (bn cells off (List.replicate n (zero.map .pv)).flatten))) else none
 | _=>none
theorem x6 {sz b off n:Nat} {zero:List PV} {cells:List AV}:rQ sz zero sh b off n (some (some cells))=if dr cells=false∧off+n*sz≤cells.length∧zero.length=sz then some (sh.set b (some (bn cells off (List.replicate n (zero.map .pv)).flatten))) else none:=rfl
theorem vG {sz b n:Nat} {ag:Bool} {zero:List PV}:exec O (.gK sz zero) [.bE b sz n ag] cells sh ah=MM ah (rQ sz zero sh b 0 n sh[b]?):=by
 simp only [exec,qO,if_true,mM];rcases sh[b]? with _ | _ | cs
 · rfl
 · rfl
 · simp only [rQ];split<;>rfl
theorem vH {sz b off n:Nat} {zero:List PV}:exec O (.gK sz zero) [.oA b off n] cells sh ah=MM ah (rQ sz zero sh b off n sh[b]?):=by
 simp only [exec,qO,mM];rcases sh[b]? with _ | _ | cs
 · rfl
 · rfl
 · simp only [rQ];split<;>rfl
def rR (sz:Nat) (sh:Sh) (ah:aN) (x:AV):Option (List PV)→Option Out
 | some xs=>Ha ah (qP sz sh xs x)
 | none=>none
where Ha (ah:aN):Option (Nat×Sh)→Option Out
 | some (k,sh')=>some ⟨.pv (.int .i64 (k:Int)),none,sh',ah⟩
 | none=>none
theorem x7 {sz:Nat} {x:AV} {xs:List PV}:rR sz sh ah x (some xs)=rR.Ha ah (qP sz sh xs x):=rfl
theorem Av {k:Nat} {sh':Sh}:rR.Ha ah (some (k,sh'))=some ⟨.pv (.int .i64 (k:Int)),none,sh',ah⟩:=rfl
theorem ki {sz:Nat} {x y:AV}:exec O (.jq sz) [x,y] cells sh ah=rR sz sh ah x (cR y):=by
 simp only [exec,rR];cases cR y with
 | none=>rfl
 | some xs=>simp only;cases qP sz sh xs x<;>rfl
def Oq (sz:Nat) (sh:Sh) (xs:List PV) (b z n:Nat):Option (Option (List AV))→Option (Nat×Sh)
 | some (some cells)=>if z=sz∧bC sz xs=true∧dr cells=false∧n*sz≤cells.length then
       some (min xs.length n,sh.set b (some (bn cells 0 (((xs.take n).flatMap bw).map .pv)))) else none
 | _=>none
theorem Aw {sz b z n:Nat} {xs:List PV} {cells:List AV}:Oq sz sh xs b z n (some (some cells))=if z=sz∧bC sz xs=true∧dr cells=false∧n*sz≤cells.length then
       some (min xs.length n,sh.set b (some (bn cells 0 (((xs.take n).flatMap bw).map .pv)))) else none:=rfl
theorem Ew {s:Nat}:AK.key (.jq s)=none:=rfl
theorem Ey:wM [] []=true:=rfl
theorem Ax {a b:List UInt8} {r q:List PV}:wM (.str a::r) (.str b::q)=((a == b) && wM r q):=rfl
theorem Ay {s:Nat} {z:List PV}:AK.key (.gK s z)=none:=rfl
theorem Az {sz b n:Nat} {ag lo hi:Bool} {rest:List AV}:cf (.qL sz lo hi) (.bE b sz n ag::rest)=jR sz lo hi (.bE b sz n ag::rest):=rfl
theorem Hb {l:List PV}:cR (.pv (.aI l))=some l:=rfl
theorem Ez {l:List PV}:cR (.bM l)=some l:=rfl
theorem EA {l:List PV} {τ:Nat}:cR (.own l τ)=some l:=rfl
theorem AA {sz:Nat}:bC sz []=true:=rfl
theorem x8 {sz:Nat} {p:PV} {r:List PV}:bC sz (p::r)=((bw p).length == sz):=rfl
def MN (sh:Sh) (ah:aN):Option (List PV)→Option Out
 | some rs=>some ⟨qQ rs,none,sh,ah⟩
 | none=>none
theorem EB {rs:List PV}:MN sh ah (some rs)=some ⟨qQ rs,none,sh,ah⟩:=rfl
def Hc (O:ep) (g:Nat):Option (List PV)→Option (List PV)
 | some dC=>O.p g dC
 | none=>none
theorem m7 {g:Nat} {dC:List PV}:Hc O g (some dC)=O.p g dC:=rfl
theorem AB {g:Nat}:exec O (.aq g) vals cells sh ah=MN sh ah (Hc O g (dF [] vals)):=by
 show (match dF [] vals with | some dC=>_ | none=>none)=_;split
 · rename_i dC h;rw [h,m7];cases O.p g dC<;>rfl
 · rename_i h;rw [h];rfl
theorem x9 {g:Nat}:exec O (.dN g) vals cells sh ah=MN (d5 sh vals) ah (Hc O g (dF sh vals)):=by
 show (match dF sh vals with | some dC=>_ | none=>none)=_;split
 · rename_i dC h;rw [h,m7];cases O.p g dC<;>rfl
 · rename_i h;rw [h];rfl
def MO (n:Nat) (ts0:aN):Option (List AV×Sh×aN)→Option Out
 | some (rs,sh',ts)=>some ⟨qR (rs.map (dG n)),none,fp n sh',ts0++ts⟩
 | none=>none
theorem EC {n:Nat} {ts0:aN} {rs:List AV} {sh':Sh} {ts:aN}:MO n ts0 (some (rs,sh',ts))=some ⟨qR (rs.map (dG n)),none,fp n sh',ts0++ts⟩:=rfl
def CF (O:ep) (g n:Nat) (q:List AV×Sh×aN×aN):Option Out:=MO n q.2.2.1 (O.i g q.1 q.2.1 q.2.2.2)
theorem He {g n:Nat} {a:List AV} {s:Sh} {o t:aN}:CF O g n (a,s,o,t)=MO n o (O.i g a s t):=rfl
def x_ (O:ep) (g:Nat) (args:List AV) (sh:Sh) (ah:aN):Option Out:=
 if args.all ct=true then CF O g ah.length (dm ah args sh) else none
theorem Hf {g:Nat} {args:List AV}:x_ O g args sh ah=if args.all ct=true then CF O g ah.length (dm ah args sh) else none:=rfl
theorem pS {g:Nat} {own:List Nat}:(er O g own vals sh ah).map (fun (v,sh',ts)=>(⟨v,none,sh',ts⟩:Out))=x_ O g (eS own 0 vals) sh ah:=by
 unfold er x_ CF;split
 · cases O.i g (dm ah (eS own 0 vals) sh).1 (dm ah (eS own 0 vals) sh).2.1 (dm ah (eS own 0 vals) sh).2.2.2 with
   | none=>rfl
   | some q=>obtain ⟨a,b,c⟩:=q;rfl
 · rfl
theorem AD {g:Nat} {own:List Nat}:exec O (.aJ g own) vals cells sh ah=x_ O g (eS own 0 vals) sh ah:=pS
theorem jj {g:Nat} {cap:List AV}:exec O .eV (.fn g cap::vals) cells sh ah=x_ O g (eS [] 0 (vals++cap)) sh ah:=pS (vals:=vals++cap)
def b2sO:Option (List UInt8)→Option AV
 | some s=>some (.pv (.str s))
 | none=>none
theorem b2sO_some {s:List UInt8}:b2sO (some s)=some (.pv (.str s)):=rfl
theorem AE {own:List Nat} {i:Nat}:eS own i []=[]:=rfl
theorem ya {own:List Nat} {i:Nat} {v:AV} {r:List AV}:eS own i (v::r)=(if own.contains i then v else kL v)::eS own (i+1) r:=rfl
theorem Hg {p:PV}:kL (.pv p)=.pv p:=rfl
theorem ED {l:List PV}:kL (.bM l)=.pv (.aI l):=rfl
theorem EE {l:List PV} {τ:Nat}:kL (.own l τ)=.pv (.aI l):=rfl
theorem AF {b o:Nat}:kL (.br b o)=.br b o:=rfl
theorem Hh {g:Nat} {cap:List AV}:kL (.fn g cap)=.fn g cap:=rfl
theorem AG {b s n:Nat} {ag:Bool}:kL (.bE b s n ag)=.bE b s n ag:=rfl
def vJ (cs:List AV):Option (List PV)→AV
 | some ps=>.pv (.agg ps)
 | none=>.agg cs
theorem EF {cs:List AV}:kL (.agg cs)=vJ cs (dT [] cs):=by
 have h:dR [] (.agg cs)=(dT [] cs).map .agg:=rfl;unfold kL vJ;rw [h];cases dT [] cs<;>rfl
theorem yc {cs:List AV} {ps:List PV}:vJ cs (some ps)=.pv (.agg ps):=rfl
def nT {α:Type}:Option α→Option (List α)→Option (List α)
 | some x,some l=>some (x::l)
 | _,_=>none
theorem AH {α:Type} {x:α} {l:List α}:nT (some x) (some l)=some (x::l):=rfl
theorem AI {env:List (Nat×AV)}:ei env []=some []:=rfl
theorem yd {env:List (Nat×AV)} {x:e8} {r:List e8}:ei env (x::r)=nT (gY env x) (ei env r):=by
 simp only [ei];cases gY env x<;>cases ei env r<;>rfl
theorem JZ {env:List (Nat×AV)} {n:Nat}:gY env (.t n)=look env n:=rfl
theorem J0 {env:List (Nat×AV)} {v:AV}:gY env (.c v)=some v:=rfl
theorem Hi:ff []=some []:=rfl
theorem oO {v:AV} {r:List AV}:ff (v::r)=nT (kS v) (ff r):=by
 simp only [ff];cases kS v<;>cases ff r<;>rfl
theorem AJ:dF sh []=some []:=rfl
theorem ye {v:AV} {r:List AV}:dF sh (v::r)=nT (dR sh v) (dF sh r):=by
 simp only [dF];cases dR sh v<;>cases dF sh r<;>rfl
theorem EG:dT sh []=some []:=rfl
theorem AL {v:AV} {r:List AV}:dT sh (v::r)=if bp v=true then nT (ee sh v) (dT sh r) else none:=by
 simp only [dT];split
 · cases ee sh v<;>cases dT sh r<;>rfl
 · rfl
theorem J1 {p:PV}:kS (.pv p)=some p:=rfl
theorem MP {p:PV}:dR sh (.pv p)=some p:=rfl
theorem J3 {l:List PV}:dR sh (.bM l)=some (.aI l):=rfl
theorem J4 {l:List PV} {τ:Nat}:dR sh (.own l τ)=some (.aI l):=rfl
def Ot:Option (List PV)→Option PV
 | some ps=>some (.agg ps)
 | none=>none
theorem EH {ps:List PV}:Ot (some ps)=some (.agg ps):=rfl
theorem J5 {cs:List AV}:dR sh (.agg cs)=Ot (dT sh cs):=by
 simp only [dR];cases dT sh cs<;>rfl
theorem AM {p:PV}:ee sh (.pv p)=some p:=rfl
theorem yg {l:List PV}:ee sh (.bM l)=some (.aI l):=rfl
theorem yh {l:List PV} {τ:Nat}:ee sh (.own l τ)=some (.aI l):=rfl
def J6 (sz n:Nat) (ag:Bool):Option (Option (List AV))→Option PV
 | some (some cells)=>if cells.length=n*sz then ((ff cells).bind (fh sz ag n)).map .aI
   else if dr cells=false∧n*sz≤cells.length then ((ff (cells.take (n*sz))).bind (fh sz ag n)).map .aI else none
 | _=>none
theorem vK {b sz n:Nat} {ag:Bool}:ee sh (.bE b sz n ag)=J6 sz n ag sh[b]?:=rfl
theorem Hj {b sz n:Nat} {ag:Bool}:dR sh (.bE b sz n ag)=J6 sz n ag sh[b]?:=rfl
theorem EI {sz n:Nat} {ag:Bool} {cells:List AV}:J6 sz n ag (some (some cells))=if cells.length=n*sz then ((ff cells).bind (fh sz ag n)).map .aI else if dr cells=false∧n*sz≤cells.length then ((ff (cells.take (n*sz))).bind (fh sz ag n)).map .aI else none:=rfl
theorem Hk {r:PV}:qQ [r]=.pv r:=rfl
theorem Hl {a b:PV} {r:List PV}:qQ (a::b::r)=.pg (.pv a::.pv b::r.map .pv):=rfl
theorem Hm {r:AV}:qR [r]=r:=rfl
theorem Hn:qR []=.pg []:=rfl
theorem Ho {xs:List AV}:dm ah xs sh=((bP ah [] xs).1,(bV (bP ah [] xs).2.1 (bP ah [] xs).2.2 sh).1,(bV (bP ah [] xs).2.1 (bP ah [] xs).2.2 sh).2.1,(bV (bP ah [] xs).2.1 (bP ah [] xs).2.2 sh).2.2):=rfl
theorem EJ {aY ts:aN}:bP aY ts []=([],aY,ts):=rfl
theorem rS {aY ts:aN} {v:AV} {r:List AV}:bP aY ts (v::r)=((cg aY ts v).1::(bP (cg aY ts v).2.1 (cg aY ts v).2.2 r).1,(bP (cg aY ts v).2.1 (cg aY ts v).2.2 r).2):=rfl
theorem EK {aY ts:aN}:bV aY ts []=([],aY,ts):=rfl
theorem rT {aY ts:aN} {r:Sh}:bV aY ts (none::r)=(none::(bV aY ts r).1,(bV aY ts r).2):=rfl
theorem rU {aY ts:aN} {cs:List AV} {r:Sh}:bV aY ts (some cs::r)=(some (bP aY ts cs).1::(bV (bP aY ts cs).2.1 (bP aY ts cs).2.2 r).1,(bV (bP aY ts cs).2.1 (bP aY ts cs).2.2 r).2):=rfl
theorem EL {aY ts:aN}:dH aY ts []=([],aY,ts):=rfl
theorem AN {aY ts:aN} {t:Nat} {v:AV} {r:List (Nat×AV)}:dH aY ts ((t,v)::r)=((t,(cg aY ts v).1)::(dH (cg aY ts v).2.1 (cg aY ts v).2.2 r).1,(dH (cg aY ts v).2.1 (cg aY ts v).2.2 r).2):=rfl
theorem EM {aY ts:aN}:fq aY ts []=([],aY,ts):=rfl
theorem AO {aY ts:aN} {t:Nat} {v:List AV} {r:List (Nat×List AV)}:fq aY ts ((t,v)::r)=((t,(bP aY ts v).1)::(fq (bP aY ts v).2.1 (bP aY ts v).2.2 r).1,(fq (bP aY ts v).2.1 (bP aY ts v).2.2 r).2):=rfl
theorem EN {aY ts:aN} {l:List PV} {τ:Nat}:cg aY ts (.own l τ)=if aY[τ]?=some l.length then (.own l ts.length,aY.set τ (l.length+1),ts++[l.length]) else (.pv (.aI l),aY,ts):=rfl
theorem EO {aY ts:aN} {l:List PV}:cg aY ts (.bM l)=(.own l ts.length,aY,ts++[l.length]):=rfl
theorem yi {aY ts:aN} {p:PV}:cg aY ts (.pv p)=(.pv p,aY,ts):=rfl
def Hp (aY ts:aN) (p:List AV):Bool→AV×aN×aN
 | true=>(.agg p,aY,ts)
 | false=>(.agg (d9 aY ts p).1,(d9 aY ts p).2.1,(d9 aY ts p).2.2)
theorem EP {aY ts:aN} {p:List AV}:cg aY ts (.agg p)=Hp aY ts p (cz.gB p):=by
 simp only [cg];cases cz.gB p<;>rfl
theorem yl {aY ts:aN} {p:List AV}:Hp aY ts p true=(.agg p,aY,ts):=rfl
theorem AQ {aY ts:aN} {a b:Nat}:cg aY ts (.aG a b)=(.aG a b,aY,ts):=rfl
theorem AR {aY ts:aN} {a b:Nat}:cg aY ts (.br a b)=(.br a b,aY,ts):=rfl
theorem AS {aY ts:aN} {a b c:Nat} {d:Bool}:cg aY ts (.bE a b c d)=(.bE a b c d,aY,ts):=rfl
theorem Hq {aY ts:aN} {a:Nat} {c:List AV}:cg aY ts (.fn a c)=(.fn a c,aY,ts):=rfl
theorem AT {s:Nat} {aY ts:aN}:cg aY ts (.jO s)=((.jO s),aY,ts):=rfl
theorem AU {s:List (PV×PV)} {aY ts:aN}:cg aY ts (.fF s)=((.fF s),aY,ts):=rfl
theorem J7 {env:List (Nat×AV)} {mem:List (Nat×List AV)}:norm ⟨env,mem,sh,ah⟩ =
   { env:=(dH ah [] env).1,
     mem:=(fq (dH ah [] env).2.1 (dH ah [] env).2.2 mem).1,
     sh:=(bV (fq (dH ah [] env).2.1 (dH ah [] env).2.2 mem).2.1 (fq (dH ah [] env).2.1 (dH ah [] env).2.2 mem).2.2 sh).1,
     ah:=(bV (fq (dH ah [] env).2.1 (dH ah [] env).2.2 mem).2.1 (fq (dH ah [] env).2.1 (dH ah [] env).2.2 mem).2.2 sh).2.2 }:=rfl
theorem ym {live:List Nat} {env:List (Nat×AV)} {mem:List (Nat×List AV)}:restrict live ⟨env,mem,sh,ah⟩=⟨cb live env live,ck mem live,sh,ah⟩:=rfl
def LD (live:List Nat) (t:Nat) (rest:List (Nat×AV)):Option AV→List (Nat×AV)
 | some v=>if en live v=true then (t,v)::rest else rest
 | none=>rest
theorem AW {live:List Nat} {t:Nat} {rest:List (Nat×AV)} {v:AV}:LD live t rest (some v)=if en live v=true then (t,v)::rest else rest:=rfl
theorem qh {live:List Nat} {env:List (Nat×AV)}:cb live env []=[]:=rfl
theorem oP {live:List Nat} {env:List (Nat×AV)} {t:Nat} {r:List Nat}:cb live env (t::r)=LD live t (cb live env r) (look env t):=by
 show (match look env t with | some v=>_ | none=>_)=_;cases look env t<;>rfl
def Hr (t:Nat) (rest:List (Nat×List AV)):Option (List AV)→List (Nat×List AV)
 | some v=>(t,v)::rest
 | none=>rest
theorem AX {t:Nat} {rest:List (Nat×List AV)} {v:List AV}:Hr t rest (some v)=(t,v)::rest:=rfl
theorem AY {t:Nat} {rest:List (Nat×List AV)}:Hr t rest none=rest:=rfl
theorem qi {mem:List (Nat×List AV)}:ck mem []=[]:=rfl
theorem oQ {mem:List (Nat×List AV)} {t:Nat} {r:List Nat}:ck mem (t::r)=Hr t (ck mem r) (look mem t):=by
 show (match look mem t with | some v=>_ | none=>_)=_;cases look mem t<;>rfl
theorem AZ {live:List Nat} {d o:Nat}:en live (.aG d o)=live.contains d:=rfl
theorem ER {live:List Nat} {l:List PV} {τ:Nat}:en live (.own l τ)=true:=rfl
theorem Hs {live:List Nat} {p:PV}:en live (.pv p)=true:=rfl
theorem ES {live:List Nat} {l:List PV}:en live (.bM l)=true:=rfl
theorem A0:fR []=true:=rfl
theorem yn {v:AV} {r:List AV}:fR (v::r)=(jr v && fR r):=rfl
theorem Ht {p:PV}:jr (.pv p)=true:=rfl
theorem ET {l:List PV}:jr (.bM l)=true:=rfl
theorem A1 {live:List Nat} {a b:Nat}:en live (.br a b)=true:=rfl
theorem A3 {live:List Nat} {a b c:Nat} {d:Bool}:en live (.bE a b c d)=true:=rfl
theorem Hu {live:List Nat} {a:Nat} {c:List AV}:en live (.fn a c)=cz.gB c:=rfl
theorem A4 {s:Nat} {live:List Nat}:en live (.jO s)=true:=rfl
theorem look_nil {α:Type} {t:Nat}:look ([]:List (Nat×α)) t=none:=rfl
theorem EU {α:Type} {k t:Nat} {v:α} {r:List (Nat×α)}:look ((k,v)::r) t=if k=t then some v else look r t:=rfl
theorem Hv {α:Type} {t:Nat} {v:α}:dO ([]:List (Nat×α)) t v=[(t,v)]:=rfl
theorem EV {α:Type} {k t:Nat} {v u:α} {r:List (Nat×α)}:dO ((k,v)::r) t u=if k=t then (k,u)::r else (k,v)::dO r t u:=rfl
theorem EW {env:List (Nat×AV)} {d:Nat} {v:AV}:fY env (some d) v=dO env d v:=rfl
theorem EX {env:List (Nat×AV)} {v:AV}:fY env none v=env:=rfl
theorem EY {mem:List (Nat×List AV)} {k:Nat} {cs:List AV}:e_ mem (some k) (some cs)=dO mem k cs:=rfl
theorem fJ {mem:List (Nat×List AV)} {o:Option (List AV)}:e_ mem none o=mem:=rfl
theorem A5 {mem:List (Nat×List AV)} {k:Nat}:e_ mem (some k) none=mem:=rfl
theorem vL {i:Nat}:cG i []=[]:=rfl
theorem tG {i:Nat} {v:AV} {r:List AV}:cG i (v::r)=(i,v)::cG (i+1) r:=rfl
theorem A6 {cs:List AV}:bF (.agg cs)=cs:=rfl
theorem yp {cs:List PV}:bF (.pv (.agg cs))=cs.map .pv:=rfl
theorem yq {b:Bool}:bF (.pv (.bool b))=[.pv (.bool b)]:=rfl
theorem A7 {k:IntKind} {n:Int}:bF (.pv (.int k n))=[.pv (.int k n)]:=rfl
theorem A8 {s:List UInt8}:bF (.pv (.str s))=[.pv (.str s)]:=rfl
theorem A9 {l:List PV}:bF (.pv (.aI l))=[.pv (.aI l)]:=rfl
theorem A_ {l:List PV}:bF (.bM l)=[.bM l]:=rfl
theorem A' {l:List PV} {τ:Nat}:bF (.own l τ)=[.own l τ]:=rfl
theorem yt {a b c:Nat} {d:Bool}:bF (.bE a b c d)=[.bE a b c d]:=rfl
theorem Ba {cs:List PV}:bw (.agg cs)=cs:=rfl
theorem Bb {k:IntKind} {n:Int}:bw (.int k n)=[.int k n]:=rfl
theorem Bc {s:List UInt8}:bw (.str s)=[.str s]:=rfl
theorem Be {l:List PV}:bw (.aI l)=[.aI l]:=rfl
theorem Bf {b:Bool}:bp (.pv (.bool b))=true:=rfl
theorem EZ {k:IntKind} {n:Int}:bp (.pv (.int k n))=true:=rfl
theorem E_ {s:List UInt8}:bp (.pv (.str s))=true:=rfl
theorem Fa {l:List PV}:bp (.pv (.aI l))=true:=rfl
theorem Fb {l:List PV}:bp (.bM l)=true:=rfl
theorem Fe {l:List PV} {τ:Nat}:bp (.own l τ)=true:=rfl
theorem Bg {a b c:Nat} {d:Bool}:bp (.bE a b c d)=true:=rfl
theorem Hw {v:AV}:dS v=bp v:=rfl
theorem Bh {a b:Nat}:cC (.br a b)=true:=rfl
theorem Ff:cC.jQ []=true:=rfl
theorem Bi {v:AV} {r:List AV}:cC.jQ (v::r)=(cC v && cC.jQ r):=rfl
theorem Fg {l:List PV} {τ:Nat}:ct (.own l τ)=true:=rfl
theorem Hx {p:PV}:ct (.pv p)=true:=rfl
theorem Fh {l:List PV}:ct (.bM l)=true:=rfl
theorem Bj {a b:Nat}:ct (.br a b)=true:=rfl
theorem Bk {a b c:Nat} {d:Bool}:ct (.bE a b c d)=true:=rfl
theorem Hy {a:Nat} {c:List AV}:ct (.fn a c)=cC.jQ c:=rfl
theorem Fi {c:List AV}:ct (.agg c)=fo c:=rfl
theorem Bl:fo []=true:=rfl
theorem yu {v:AV} {r:List AV}:fo (v::r)=(kM v && fo r):=rfl
theorem Hz {p:PV}:kM (.pv p)=true:=rfl
theorem Fj {l:List PV}:kM (.bM l)=true:=rfl
theorem Bm {a b c:Nat} {d:Bool}:kM (.bE a b c d)=true:=rfl
theorem Fk:cz.gB []=true:=rfl
theorem Bn {v:AV} {r:List AV}:cz.gB (v::r)=(cz v && cz.gB r):=rfl
theorem HA {p:PV}:cz (.pv p)=true:=rfl
theorem Fl {l:List PV}:cz (.bM l)=true:=rfl
theorem Bo {a b:Nat}:cz (.br a b)=true:=rfl
theorem Bp {a b c:Nat} {d:Bool}:cz (.bE a b c d)=true:=rfl
theorem Fm {n:Nat} {p:PV}:aW n (.pv p)=true:=rfl
theorem Bq {n:Nat} {l:List PV}:aW n (.bM l)=true:=rfl
theorem Br {n:Nat} {l:List PV} {τ:Nat}:aW n (.own l τ)=true:=rfl
theorem yv {n a b c:Nat} {d:Bool}:aW n (.bE a b c d)=decide (a<n):=rfl
theorem Bs {n:Nat} {c:List AV}:aW n (.agg c)=aW.cX n c:=rfl
theorem yx {n:Nat}:aW.cX n []=true:=rfl
theorem vM {n:Nat} {v:AV} {r:List AV}:aW.cX n (v::r)=(aW n v && aW.cX n r):=rfl
theorem Bt {n τ:Nat} {l:List PV}:dG n (.own l τ)=.own l (τ+n):=rfl
theorem ug {n:Nat} {p:PV}:dG n (.pv p)=.pv p:=rfl
def CG (n:Nat) (p:List AV):Bool→AV
 | true=>.agg p
 | false=>.agg (p.map (lj n))
theorem Bu {n:Nat} {p:List AV}:dG n (.agg p)=CG n p (cz.gB p):=by
 simp only [dG];cases cz.gB p<;>rfl
theorem vN {n:Nat} {p:List AV}:CG n p true=.agg p:=rfl
theorem yy {n a b c:Nat} {d:Bool}:dG n (.bE a b c d)=.bE a b c d:=rfl
theorem Bv {n:Nat}:fp n []=[]:=rfl
theorem pT {n:Nat} {r:Sh}:fp n (none::r)=none::fp n r:=rfl
theorem pU {n:Nat} {cs:List AV} {r:Sh}:fp n (some cs::r)=some (cs.map (dG n))::fp n r:=rfl
theorem tH {b:Bool}:cf.zeroCell (.bool b)=.pv (.bool b):=rfl
theorem vO {k:IntKind} {n:Int}:cf.zeroCell (.int k n)=.pv (.int k n):=rfl
theorem vP {s:List UInt8}:cf.zeroCell (.str s)=.pv (.str s):=rfl
theorem vQ:cf.zeroCell (.aI [])=.bM []:=rfl
theorem yz {l:List PV} {τ:Nat}:cY (.own l τ)=[.own l τ]:=rfl
theorem Bw {p:PV}:cY (.pv p)=bF (.pv p):=rfl
def CH (cs:List AV):Option (List PV)→List AV
 | some ps=>ps.map .pv
 | none=>cs
theorem yA {cs:List AV}:cY (.agg cs)=CH cs (dT [] cs):=by
 show (match dR [] (.agg cs) with | some p=>bF (.pv p) | none=>bF (.agg cs))=_;have h:dR [] (.agg cs)=(dT [] cs).map .agg:=rfl;unfold CH;rw [h];cases dT [] cs<;>rfl
theorem Bx {cs:List AV} {ps:List PV}:CH cs (some ps)=ps.map .pv:=rfl
theorem rV {cs:List AV}:CH cs none=cs:=rfl
theorem Ou {o:s9}:AK.key (.v o)=none:=rfl
theorem Fo {k o s:Nat} {a:Bool}:AK.key (.aU k o s a)=some k:=rfl
theorem By {k o s:Nat}:AK.key (.cV k o s)=some k:=rfl
theorem Fp {k:Nat} {z:List PV}:AK.key (.alloc k z)=some k:=rfl
theorem J8 {k s:Nat}:AK.key (.box k s)=some k:=rfl
theorem Fq {s:Nat} {a:Bool}:AK.key (.bg s a)=none:=rfl
theorem Bz {s:Nat}:AK.key (.cd s)=none:=rfl
theorem HB {s:Nat}:AK.key (.mz s)=none:=rfl
theorem BA {s:List PV}:AK.key (.iX s)=none:=rfl
theorem Fs {s b:Nat} {a:Bool} {z:List PV}:AK.key (.ir s b a z)=none:=rfl
theorem yB {s b:Nat} {ag:Bool}:AK.key (.dd s b ag)=none:=rfl
theorem BB {s b:Nat}:AK.key (.append s b)=none:=rfl
theorem Ft {g:Nat}:AK.key (.aq g)=none:=rfl
theorem BC {g:Nat}:AK.key (.dN g)=none:=rfl
theorem Fu {g:Nat} {o:List Nat}:AK.key (.aJ g o)=none:=rfl
theorem Fv {sz bytes:Nat}:(AK.clone sz bytes).key=none:=rfl
theorem Fw:AK.key .eV=none:=rfl
theorem bind_none {f:Nat→Option (List AV)}:(none:Option Nat).bind f=none:=rfl
theorem bind_some {f:Nat→Option (List AV)} {n:Nat}:(some n).bind f=f n:=rfl
theorem BD {sz off:Nat} {cs:List AV}:cA true sz cs off=if off+sz≤cs.length then some (.agg ((cs.drop off).take sz)) else none:=rfl
theorem yC {off:Nat} {cs:List AV}:cA false 1 cs off=if off+1≤cs.length then cs[off]? else none:=rfl
theorem yD {sz:Nat} {cs:List PV}:df true sz cs=if sz≤cs.length then some (.pv (.agg (cs.take sz))) else none:=rfl
theorem vR {c:PV} {cs:List PV}:df false 1 (c::cs)=some (.pv c):=by simp [df]
theorem aK {cs vs:List AV} {off:Nat}:bn cs off vs=cs.take off++vs++cs.drop (off+vs.length):=rfl
theorem MQ {x:AV}:cf .mv [x]=some x:=rfl
theorem HC {c:Bool} {a b:AV}:cf .pick [.pv (.bool c),a,b]=if c=true then some a else some b:=by cases c<;>rfl
theorem J9 {i:Nat} {vs:List AV}:cf (.ext i) [.pg vs]=vs[i]?:=rfl
theorem BE {off d o:Nat}:cf (.aS off) [.aG d o]=some (.aG d (o+off)):=rfl
theorem BF {off d o:Nat}:cf (.aS off) [.br d o]=some (.br d (o+off)):=rfl
theorem BG {off:Nat} {cs:List PV}:cf (.aS off) [.gf cs]=some (.gf (cs.drop off)):=rfl
def vS (sz:Nat):Option PV→Option AV
 | some el=>if (bw el).length=sz then some (.gf (bw el)) else none
 | none=>none
theorem yE {sz:Nat} {el:PV}:vS sz (some el)=if (bw el).length=sz then some (.gf (bw el)) else none:=rfl
theorem Fx {sz:Nat} {l:List PV} {k:IntKind} {i:Int}:cf (.aA sz) [.pv (.aI l),.pv (.int k i)]=if i<0 then none else vS sz l[i.toNat]?:=by
 show (if i<0 then none else _)=_;split
 · rfl
 · show (match l[i.toNat]? with | some el=>_ | none=>_)=_;cases l[i.toNat]?<;>rfl
theorem BH {sz:Nat} {l:List PV} {k:IntKind} {i:Int}:cf (.aA sz) [.bM l,.pv (.int k i)]=if i<0 then none else vS sz l[i.toNat]?:=by
 show (if i<0 then none else _)=_;split
 · rfl
 · show (match l[i.toNat]? with | some el=>_ | none=>_)=_;cases l[i.toNat]?<;>rfl
theorem BI {sz τ:Nat} {l:List PV} {k:IntKind} {i:Int}:cf (.aA sz) [.own l τ,.pv (.int k i)]=if i<0 then none else vS sz l[i.toNat]?:=by
 show (if i<0 then none else _)=_;split
 · rfl
 · show (match l[i.toNat]? with | some el=>_ | none=>_)=_;cases l[i.toNat]?<;>rfl
theorem BJ {sz b sz' n:Nat} {ag:Bool} {k:IntKind} {i:Int}:cf (.aA sz) [.bE b sz' n ag,.pv (.int k i)]=if i<0 then none else if sz=sz'∧i.toNat<n then some (.br b (i.toNat*sz)) else none:=rfl
def Ov:Option (List AV)→Option AV
 | some cs=>some (.agg cs)
 | none=>none
theorem Fy {cs:List AV}:Ov (some cs)=some (.agg cs):=rfl
theorem Fz {zero:List PV} {places:List (Nat×Nat)}:cf (.build zero places) vals=Ov (kK (zero.map cf.zeroCell) places vals):=by
 show (kK _ _ _).map _=_;cases kK (zero.map cf.zeroCell) places vals<;>rfl
theorem FA {cs:List AV}:kK cs [] []=some cs:=rfl
theorem BK {cs:List AV} {off sz:Nat} {ps:List (Nat×Nat)} {v:AV} {vs:List AV}:kK cs ((off,sz)::ps) (v::vs) =
   if (bF v).length=sz∧off+sz≤cs.length∧(bF v).all bp=true then kK (bn cs off (bF v)) ps vs else none:=rfl
def Ow (sz:Nat):Option (List PV)→Option AV
 | some els=>if els.all (fun e=>(bw e).length == sz) then some (.bM els) else none
 | none=>none
theorem FB {sz:Nat} {els:List PV}:Ow sz (some els)=if els.all (fun e=>(bw e).length == sz) then some (.bM els) else none:=rfl
theorem BL {sz:Nat}:cf (.aT sz) vals=Ow sz (dF [] vals):=by
 show (dF [] vals).bind _=_;cases dF [] vals<;>rfl
theorem FC {sz:Nat} {ag:Bool} {cs:List PV}:cf (.bG sz ag) [.gf cs]=df ag sz cs:=rfl
theorem J_ {l:List PV}:cf .len [.pv (.aI l)]=some (.pv (.int .i64 l.length)):=rfl
theorem HD {l:List PV}:cf .len [.bM l]=some (.pv (.int .i64 l.length)):=rfl
theorem HE {l:List PV} {τ:Nat}:cf .len [.own l τ]=some (.pv (.int .i64 l.length)):=rfl
theorem HF {a b n:Nat} {d:Bool}:cf .len [.bE a b n d]=some (.pv (.int .i64 n)):=rfl
theorem HG {a b:Nat}:cf .bo [.br a b]=some (.br a b):=rfl
theorem MR {k k':IntKind} {x y:Int}:cf .mn [.pv (.int k x),.pv (.int k' y)]=if k=k' then some (.pv (.int k (if y<x then y else x))) else none:=rfl
theorem MS {k k':IntKind} {x y:Int}:cf .mx [.pv (.int k x),.pv (.int k' y)]=if k=k' then some (.pv (.int k (if y > x then y else x))) else none:=rfl
theorem HH {g:Nat}:cf (.Dp g) vals=some (.fn g vals):=by cases vals<;>rfl
theorem HI {k k':IntKind} {n:Int}:cf (.conv k) [.pv (.int k' n)]=some (.pv (.int k (k.wrap n))):=rfl
theorem J' {b:Bool}:cf (.un .not) [.pv (.bool b)]=some (.pv (.bool !b)):=rfl
theorem Ka {a b:Bool}:cf (.beq true) [.pv (.bool a),.pv (.bool b)]=some (.pv (.bool !(a == b))):=rfl
theorem Kb {k:IntKind} {a b:Int}:cf (.bin .add) [.pv (.int k a),.pv (.int k b)]=some (.pv (.int k (k.wrap (a+b)))):=by simp [cf,dU]
theorem Kc {k:IntKind} {a b:Int}:cf (.bin .sub) [.pv (.int k a),.pv (.int k b)]=some (.pv (.int k (k.wrap (a-b)))):=by simp [cf,dU]
theorem Kd {k:IntKind} {a b:Int}:cf (.bin .rem) [.pv (.int k a),.pv (.int k b)]=if b=0 then none else some (.pv (.int k (a.tmod b))):=by simp [cf,dU]
theorem Ke {k:IntKind} {a b:Int}:cf (.bin .eql) [.pv (.int k a),.pv (.int k b)]=some (.pv (.bool (a == b))):=by simp [cf,dU]
theorem Kf {k:IntKind} {a b:Int}:cf (.bin .neq) [.pv (.int k a),.pv (.int k b)]=some (.pv (.bool (a != b))):=by simp [cf,dU]
theorem Kg {k:IntKind} {a b:Int}:cf (.bin .lss) [.pv (.int k a),.pv (.int k b)]=some (.pv (.bool (decide (a<b)))):=by simp [cf,dU]
theorem Kh {k:IntKind} {a b:Int}:cf (.bin .leq) [.pv (.int k a),.pv (.int k b)]=some (.pv (.bool (decide (a≤b)))):=by simp [cf,dU]
theorem Ki {k:IntKind} {a b:Int}:cf (.bin .gtr) [.pv (.int k a),.pv (.int k b)]=some (.pv (.bool (decide (a > b)))):=by simp [cf,dU]
theorem Kj {k:IntKind} {a b:Int}:cf (.bin .geq) [.pv (.int k a),.pv (.int k b)]=some (.pv (.bool (decide (a≥b)))):=by simp [cf,dU]
theorem Kk {k:IntKind} {a b:Int}:cf (.bin .and) [.pv (.int k a),.pv (.int k b)]=some (.pv (.int k (k.wrap (BitVec.ofInt k.bits a &&& BitVec.ofInt k.bits b).toNat))):=by simp [cf,dU]
theorem Kl {k k':IntKind} {a b:Int}:cf (.bin .shr) [.pv (.int k a),.pv (.int k' b)]=if b<0 then none else some (.pv (.int k (a.fdiv (2 ^ (min b.toNat k.bits))))):=by simp [cf,dU]
theorem Km {a b:List UInt8}:cf (.bin .add) [.pv (.str a),.pv (.str b)]=if a.length+b.length≤9223372036854775807 then some (.pv (.str (a++b))) else none:=rfl
theorem HJ {a b:List UInt8}:cf (.bin .eql) [.pv (.str a),.pv (.str b)]=some (.pv (.bool (a == b))):=rfl
theorem HK {a b:List UInt8}:cf (.bin .neq) [.pv (.str a),.pv (.str b)]=some (.pv (.bool (!(a == b)))):=rfl
theorem FD {sz:Nat} {lo hi mx:Bool} {x:AV} {rest:List AV}:cf (.slice false sz lo hi mx) (x::rest)=cO false sz lo hi mx (x::rest):=rfl
theorem BM {sz:Nat} {lo hi mx:Bool} {x:AV} {rest:List AV}:cf (.slice true sz lo hi mx) (x::rest)=cO true sz lo hi mx (x::rest):=rfl
def m8 (bq ks:Bool) (sh0 sh:Sh) (ah:aN):Option (List AV)→Option (List AV×Sh×aN)
 | some vs=>if (cP bq ks sh vs).all ct=true then
     some ((dm ah (cP bq ks sh vs) (if (cP bq ks sh vs).all (aW sh0.length)=true then (eW bq ks sh vs).take sh0.length else eW bq ks sh vs)).1,
       (dm ah (cP bq ks sh vs) (if (cP bq ks sh vs).all (aW sh0.length)=true then (eW bq ks sh vs).take sh0.length else eW bq ks sh vs)).2.1,
       (dm ah (cP bq ks sh vs) (if (cP bq ks sh vs).all (aW sh0.length)=true then (eW bq ks sh vs).take sh0.length else eW bq ks sh vs)).2.2.2) else none
 | none=>none
theorem yF {bq ks:Bool} {sh0:Sh} {vs:List AV}:m8 bq ks sh0 sh ah (some vs)=if (cP bq ks sh vs).all ct=true then
     some ((dm ah (cP bq ks sh vs) (if (cP bq ks sh vs).all (aW sh0.length)=true then (eW bq ks sh vs).take sh0.length else eW bq ks sh vs)).1,
       (dm ah (cP bq ks sh vs) (if (cP bq ks sh vs).all (aW sh0.length)=true then (eW bq ks sh vs).take sh0.length else eW bq ks sh vs)).2.1,
       (dm ah (cP bq ks sh vs) (if (cP bq ks sh vs).all (aW sh0.length)=true then (eW bq ks sh vs).take sh0.length else eW bq ks sh vs)).2.2.2) else none:=rfl
def fin (bq ks:Bool) (rs:List qN) (sh0:Sh):Option (bH×St)→Option (List AV×Sh×aN)
 | some (.ret,st)=>m8 bq ks sh0 st.sh st.ah (et st rs)
 | some (.normal,st)=>m8 bq ks sh0 st.sh st.ah (et st rs)
 | _=>none
theorem Ko {bq ks:Bool} {rs:List qN} {sh0:Sh} {st:St}:fin bq ks rs sh0 (some (.ret,st))=m8 bq ks sh0 st.sh st.ah (et st rs):=rfl
theorem BN {bq ks:Bool} {rs:List qN} {sh0:Sh} {st:St}:fin bq ks rs sh0 (some (.normal,st))=m8 bq ks sh0 st.sh st.ah (et st rs):=rfl
theorem Kq {bq ks:Bool} {rs:List qN} {sh0:Sh} {c:Prop} [Decidable c] {x y:Option (bH×St)}:fin bq ks rs sh0 (if c then x else y)=if c then fin bq ks rs sh0 x else fin bq ks rs sh0 y:=by split<;>rfl
theorem uh {bq:Bool} {af:aD} {sh0:Sh} {r:Option (bH×St)}:finish bq af sh0 r=fin bq af.ks af.results sh0 r:=by
 cases r with
 | none=>rfl
 | some q=>
   obtain ⟨e,st⟩:=q;cases e with
   | ret=>simp only [finish,fin];cases et st af.results<;>simp [m8]
   | normal=>simp only [finish,fin];cases et st af.results<;>simp [m8]
   | exit id=>simp [finish,fin]
theorem BO {st:St}:et st []=some []:=rfl
theorem yG {st:St} {r:qN} {rs:List qN}:et st (r::rs)=nT (pj st r) (et st rs):=by
 simp only [et];cases pj st r<;>cases et st rs<;>rfl
theorem Kr {st:St} {n:Nat}:pj st (.t n)=look st.env n:=rfl
def nU (key sz:Nat) (ag:Bool) (mem:List (Nat×List AV)) (sh:Sh):Option AV→Option AV
 | some (.aG d 0)=>vT key d sz ag (look mem key)
 | some (.br s 0)=>vD ag sz 0 sh[s]?
 | _=>none
where vT (key d sz:Nat) (ag:Bool):Option (List AV)→Option AV
 | some cs=>if d=key then cA ag sz cs 0 else none
 | none=>none
theorem Ks {st:St} {key sz:Nat} {ag:Bool}:pj st (.c key sz ag)=nU key sz ag st.mem st.sh (look st.env key):=by
 simp only [pj];unfold nU;split
 · rename_i h;rw [h];rfl
 · rename_i h;rw [h];rfl
 · rename_i h1 h2;split
   · rename_i d e;exact absurd e (h1 d)
   · rename_i s e;exact absurd e (h2 s)
   · rfl
theorem vU {key sz d:Nat} {ag:Bool} {mem:List (Nat×List AV)}:nU key sz ag mem sh (some (.aG d 0))=nU.vT key d sz ag (look mem key):=rfl
theorem vV {key sz d:Nat} {ag:Bool} {cs:List AV}:nU.vT key d sz ag (some cs)=if d=key then cA ag sz cs 0 else none:=rfl
theorem vW {vs:List AV} {ks:Bool}:cP false ks sh vs=vs.map (qU sh):=rfl
theorem yH {vs:List AV}:cP true false sh vs=vs.map (zM sh):=rfl
theorem FE {vs:List AV}:cP true true sh vs=vs:=rfl
theorem yI {vs:List AV} {ks:Bool}:eW false ks sh vs=d5 sh vs:=rfl
theorem BP {vs:List AV}:eW true false sh vs=d5 sh vs:=rfl
theorem HL {vs:List AV}:eW true true sh vs=sh:=rfl
def Ox (v:AV):Option PV→AV
 | some p=>.pv p
 | none=>v
theorem FF {v:AV} {p:PV}:Ox v (some p)=.pv p:=rfl
theorem HM {v:AV}:qU sh v=Ox v (dR sh v):=rfl
theorem HN {l:List PV} {τ:Nat}:zM sh (.own l τ)=.own l τ:=rfl
theorem HO {cs:List AV}:zM sh (.agg cs)=.agg (cs.map (th sh)):=rfl
theorem Kt {p:PV}:zM sh (.pv p)=.pv p:=rfl
theorem HP {l:List PV}:th sh (.bM l)=.bM l:=rfl
theorem HQ {l:List PV} {τ:Nat}:th sh (.own l τ)=.pv (.aI l):=rfl
theorem HR {k:IntKind} {n:Int}:th sh (.pv (.int k n))=.pv (.int k n):=rfl
theorem HS {s:List UInt8}:th sh (.pv (.str s))=.pv (.str s):=rfl
theorem HT {l:List PV}:th sh (.pv (.aI l))=.pv (.aI l):=rfl
theorem BQ {vs:List AV}:d5 sh vs=kill sh (vs.flatMap fm):=rfl
theorem HU:kill sh []=sh:=rfl
theorem FG {b:Nat} {l:List Nat}:kill sh (b::l)=kill (sh.set b none) l:=rfl
theorem FH {a b c:Nat} {d:Bool}:fm (.bE a b c d)=[a]:=rfl
theorem Ku {p:PV}:fm (.pv p)=[]:=rfl
theorem HV {l:List PV} {τ:Nat}:fm (.own l τ)=[]:=rfl
theorem HW {l:List PV}:fm (.bM l)=[]:=rfl
def ui:AV→List Nat
 | .bE b _ _ _=>[b]
 | _=>[]
theorem HX {cs:List AV}:fm (.agg cs)=cs.flatMap ui:=by
 show cs.flatMap _=cs.flatMap ui;congr 1
theorem BR {a b c:Nat} {d:Bool}:ui (.bE a b c d)=[a]:=rfl
theorem HY {p:PV}:ui (.pv p)=[]:=rfl
theorem FI {l:List PV} {τ:Nat}:ui (.own l τ)=[]:=rfl
theorem FJ {l:List PV}:ui (.bM l)=[]:=rfl
theorem BS:fZ []=some []:=rfl
theorem yJ {p:PV} {r:List AV}:fZ (.pv p::r)=nT (some p) (fZ r):=by
 simp only [fZ];cases fZ r<;>rfl
def mc:Option (List AV×Sh×aN)→Option (List PV)
 | some (rs,_,_)=>fZ rs
 | none=>none
theorem vX {rs:List AV} {t:aN}:mc (some (rs,sh,t))=fZ rs:=rfl
theorem yK {c:Prop} [Decidable c] {x y:Option (List AV×Sh×aN)}:mc (if c then x else y)=if c then mc x else mc y:=by split<;>rfl
theorem aw {g:Nat} {af:aD} {x:List PV} (hg:AP g=some af) (h1:x.length=af.nparams) (h2:af.nparams≤af.ntmps) (hp:af.qb=none:=by rfl) :
   (aP AP).p g x=mc (fin false af.ks af.results [] (cl AP af.body ⟨cG 0 (x.map .pv),[],[],[]⟩)):=by
 rw [LB hg hp h1 (by omega)];unfold mH mc;rw [uh];cases fin false af.ks af.results [] (cl AP af.body ⟨cG 0 (x.map .pv),[],[],[]⟩)<;>rfl
theorem aR {g:Nat} {af:aD} {x:List AV} {ts:aN} (hg:AP g=some af) (h2:x.length≤af.ntmps) :
   (aP AP).i g x sh ts=fin true af.ks af.results sh (cl AP af.body ⟨cG 0 x,[],sh,ts⟩):=by
 rw [LC hg h2,←uh];rfl
end
attribute [simp] Ea xZ Eb x4 Al je D_ Ak GV D' DW xQ DX xS Ad vz DY Ae DZ vA D0 Af D1 D2 Ag vB xT Ah GQ JV Ol JW GR GS D6 D7 xW Ai Aj D9 MI ib iy jd ly xX pR xY nR iz l0 jx kh Eh GW jy tF Ei Ej Hb Ez EA AA x8 EB m7 AB x9 EC He Hf AD jj AE ya Hg ED EE AF Hh AG EF yc AH AI yd JZ J0 Hi oO AJ ye EG AL J1 MP J3 J4 EH J5 AM yg yh vK Hj EI Hk Hl Hm Hn Ho EJ rS EK rT rU EL AN EM AO EN EO yi EP AQ AR AS Hq J7 ym AW qh oP AX AY qi oQ AZ ER Hs ES A1 A3 Hu look_nil EU Hv EV EW EX EY fJ A5 vL tG A6 yp yq A7 A8 A9 A_ A' yt Ba Bb Bc Be Bf EZ E_ Fa Fb Fe Bg Hw Bh Ff Bi Fg Hx Fh Bj Bk Hy Fi Fk Bn HA Fl Bo Bp Fm Bq Br yv Bs yx vM Bt ug Bu yy Bv pT pU tH vO vP vQ yz Bw yA Bx rV Ou Fo By Fp J8 Fq Bz HB BA Fs BB Ft BC Fu Fw b2sO_some bind_none bind_some BD yC yD vR aK MQ HC J9 BE BF BG yE Fx BH BI BJ Fy Fz FA BK FB BL FC J_ HD HE HF HG MR MS HH HI J' Ka Kb Kc Kd Ke Kf Kg Kh Ki Kj Kk Kl Km HJ HK FD BM yF Ko BN Kq BO yG Kr Ks vU vV vW yH FF HM HN HO Kt HP HQ HR HS HT BQ HU FG FH Ku HV HW HX BR HY FI FJ BS yJ vX yK AT AU A4 JX mR tE Am Ec Ed Fv Ee Ef yl A0 yn Ht ET Bl yu Hz Fj Bm vN FE yI BP HL Em GX Ao kj x5 GZ G5 Eo JY G_ Er Es Et Ep Aq Au ME yB Eu x6 vG vH Ay x7 Av ki Aw Ew Ey Ax Az MH JR JS MF GO List.getElem?_cons_zero
theorem az {n:Int} (h1:-9223372036854775808≤n) (h2:n≤9223372036854775807):IntKind.i64.wrap n=n:=by
 simp [IntKind.wrap,IntKind.bits,IntKind.signed];omega
end Go.Ab.Ev
