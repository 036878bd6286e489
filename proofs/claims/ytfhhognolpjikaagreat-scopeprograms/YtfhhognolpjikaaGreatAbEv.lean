import Derived.Test.YtfhhognolpjikaaGreatAbLim
/-
  Rules for running slim code by the simplifier: each is an equation on constructors.
-/
set_option linter.unusedVariables false
set_option linter.unusedSimpArgs false
set_option maxRecDepth 100000
set_option maxHeartbeats 8000000
namespace Go.Ab.Ev
section
variable {AP:Nat→Option aJ} {O:eM}
noncomputable def branch (AP:Nat→Option aJ) (o:Option AV) (a b:aw) (st:St):Option (bf×St):=
 match o with
 | some (.pv (.bool t))=>if t=true then cl AP a st else cl AP b st
 | _=>none
theorem C7 {c:eL} {a b:aw} {st:St}:cl AP (.cond c a b) st=branch AP (gJ st.env c) a b st:=by
 unfold branch
 split
 · rename_i t h
   rw [JV h]
 · rename_i h
   unfold cl
   refine qI fun k=>?_
   simp only [dF]
theorem wt {t:Bool} {a b:aw} {st:St}:branch AP (some (.pv (.bool t))) a b st=if t=true then cl AP a st else cl AP b st:=rfl
def qM (live:List Nat):Option St→Option (bf×St)
 | some st=>some (.normal,restrict live st)
 | none=>none
theorem C8 {ops:List d4} {live:List Nat} {st:St}:cl AP (.ae ops live) st=qM live (bW (aN AP) ops st):=by
 rw [MW]
 cases bW (aN AP) ops st<;>rfl
theorem wu {live:List Nat} {st:St}:qM live (some st)=some (.normal,restrict live st):=rfl
theorem yU {live:List Nat} {c:Prop} [Decidable c] {x y:Option St}:qM live (if c then x else y)=if c then qM live x else qM live y:=by split<;>rfl
theorem ua {f:St→Option (bf×St)} {st:St}:after f (some (.normal,st))=f st:=rfl
theorem C9 {f:St→Option (bf×St)} {st:St}:after f (some (.ret,st))=some (.ret,st):=rfl
theorem yV {f:St→Option (bf×St)} {st:St} {id:Nat}:after f (some (.exit id,st))=some (.exit id,st):=rfl
theorem C_ {f:St→Option (bf×St)} {c:Prop} [Decidable c] {x y:Option (bf×St)}:after f (if c then x else y)=if c then after f x else after f y:=by split<;>rfl
theorem uc {id:Nat} {st:St}:leave id (some (.normal,st))=some (.normal,st):=rfl
theorem C' {id:Nat} {st:St}:leave id (some (.ret,st))=some (.ret,st):=rfl
theorem yW {id id':Nat} {st:St}:leave id (some (.exit id',st))=if id'=id then some (.normal,st) else some (.exit id',st):=rfl
theorem Da {id:Nat} {c:Prop} [Decidable c] {x y:Option (bf×St)}:leave id (if c then x else y)=if c then leave id x else leave id y:=by split<;>rfl
def lz (O:eM) (l:List d4):Option St→Option St
 | some st=>bW O l st
 | none=>none
theorem Db {st:St}:bW O [] st=some st:=rfl
theorem jU {o:d4} {l:List d4} {st:St}:bW O (o::l) st=lz O l (eB O o st):=by
 simp only [bW]
 cases eB O o st<;>rfl
theorem yX {d:Option Nat} {args:List eL} {op:AK} {l:List d4} {st:St}:bW O (⟨d,none,args,op⟩::l) st=lz O l (eB O ⟨d,none,args,op⟩ st):=jU
theorem ud {l:List d4} {st:St}:lz O l (some st)=bW O l st:=rfl
theorem wv {l:List d4} {c:Prop} [Decidable c] {x y:Option St}:lz O l (if c then x else y)=if c then lz O l x else lz O l y:=by split<;>rfl
def qN (d k:Option Nat) (env:List (Nat×AV)) (mem:List (Nat×List AV)):Option Out→Option St
 | some out=>some { env:=gg env d out.val,mem:=fp mem k out.cells,sh:=out.sh,ah:=out.ah }
 | none=>none
def Gj (O:eM) (op:AK) (vals:Option (List AV)) (cells:Option (List AV)) (sh:Sh) (ah:aM):Option Out:=
 match vals with
 | some vals=>exec O op vals cells sh ah
 | none=>none
theorem yY {d:Option Nat} {args:List eL} {op:AK} {env:List (Nat×AV)} {mem:List (Nat×List AV)} {sh:Sh} {ah:aM} :
   eB O ⟨d,none,args,op⟩ ⟨env,mem,sh,ah⟩=qN d op.key env mem (Gj O op (d5 env args) (op.key.bind (look mem)) sh ah):=by
 simp only [eB,eY]
 cases d5 env args with
 | none=>rfl
 | some vals=>
   dsimp only [Gj]
   cases exec O op vals (op.key.bind (look mem)) sh ah<;>rfl
def qO (t:Nat) (b:Bool) (o:d4):d4:=
 match o.guard with
 | some (t',b')=>if t'=t then (if b'=b then { o with guard:=none } else ⟨o.dst,none,[.c .un],.v .mv⟩) else o
 | none=>o
def Dc (t:Nat):List d4→Bool
 | []=>true
 | o::l=>(o.dst != some t) && Dc t l
theorem lA {α:Type} {t t':Nat} {v:α}:∀{l:List (Nat×α)},look (dL l t v) t'=if t'=t then some v else look l t'
 | []=>by
   simp only [dL,look]
   by_cases h:t'=t
   · subst h;simp
   · rw [if_neg (fun e=>h e.symm),if_neg h]
 | (k,u)::r=>by
   simp only [dL]
   by_cases hk:k=t
   · subst hk
     simp only [if_true,look]
     by_cases h:t'=k
     · subst h;simp
     · rw [if_neg (fun e=>h e.symm),if_neg h,if_neg (fun e=>h e.symm)]
   · rw [if_neg hk]
     simp only [look,lA (l:=r)]
     by_cases h:k=t'
     · subst h;simp [hk]
     · rw [if_neg h,if_neg h]
theorem oh {α:Type} {t:Nat} {v:α}:∀{l:List (Nat×α)},look l t=some v→dL l t v=l
 | [],h=>by simp [look] at h
 | (k,u)::r,h=>by
   simp only [look] at h
   simp only [dL]
   split at h
   · rename_i e;cases h;rw [if_pos e]
   · rename_i e;rw [if_neg e,oh h]
theorem Dd {o:d4} {st st':St} {t:Nat} {v:AV} (hd:(o.dst != some t)=true) (h:look st.env t=some v) (e:eB O o st=some st'):look st'.env t=some v:=by
 have key:∀x,look (gg st.env o.dst x) t=some v:=by
   intro x
   cases hdd:o.dst with
   | none=>exact h
   | some d=>
     rw [hdd] at hd
     simp only [gg,lA]
     rw [if_neg (by intro e;subst e;simp at hd)]
     exact h
 simp only [eB] at e
 split at e
 · cases e
 · cases e;exact key _
 · split at e
   · cases e
   · split at e
     · cases e
     · cases e;exact key _
theorem De {o:d4} {st:St} {t:Nat} {b:Bool} (h:look st.env t=some (.pv (.bool b))):eB O o st=eB O (qO t b o) st:=by
 obtain ⟨d,g,args,op⟩:=o
 cases g with
 | none=>rfl
 | some p=>
   obtain ⟨t',b'⟩:=p
   simp only [qO]
   by_cases ht:t'=t
   · subst ht
     rw [if_pos rfl]
     by_cases hb:b'=b
     · subst hb
       rw [if_pos rfl]
       simp only [eB,eY,h,beq_self_eq_true]
     · rw [if_neg hb]
       have hb':(b == b')=false:=by simpa using fun e=>hb e.symm
       simp only [eB,eY,h,hb']
       obtain ⟨env,mem,sh,ah⟩:=st
       rfl
   · rw [if_neg ht]
theorem mm {t:Nat} {b:Bool}:∀{l:List d4} {st:St},Dc t l=true→look st.env t=some (.pv (.bool b))→bW O l st=bW O (l.map (qO t b)) st
 | [],_,_,_=>rfl
 | o::l,st,hn,h=>by
   simp only [Dc,Bool.and_eq_true] at hn
   rw [List.map_cons,jU,jU,←De h]
   cases e:eB O o st with
   | none=>rfl
   | some st'=>exact mm hn.2 (Dd hn.1 h e)
theorem wx {d:Option Nat} {t:Nat} {b:Bool} {args:List eL} {op:AK} {l:List d4} {env:List (Nat×AV)} {mem:List (Nat×List AV)} {sh:Sh} {ah:aM} {c:Bool} (h:look env t=some (.pv (.bool c))) (hn:Dc t (⟨d,some (t,b),args,op⟩::l)=true) :
   bW O (⟨d,some (t,b),args,op⟩::l) ⟨env,mem,sh,ah⟩ =
     if c=true then bW O ((⟨d,some (t,b),args,op⟩::l).map (qO t true)) ⟨dL env t (.pv (.bool true)),mem,sh,ah⟩
     else bW O ((⟨d,some (t,b),args,op⟩::l).map (qO t false)) ⟨dL env t (.pv (.bool false)),mem,sh,ah⟩:=by
 cases c with
 | true=>rw [if_pos rfl,oh h];exact mm hn h
 | false=>rw [if_neg (by simp),oh h];exact mm hn h
theorem ue {d:Option Nat} {t:Nat} {b:Bool} {args:List eL} {op:AK} {l:List d4} {env:List (Nat×AV)} {mem:List (Nat×List AV)} {sh:Sh} {ah:aM} (h:look env t=some .un) :
   bW O (⟨d,some (t,b),args,op⟩::l) ⟨env,mem,sh,ah⟩=bW O l ⟨gg env d .un,mem,sh,ah⟩:=by
 rw [jU]
 simp only [eB,eY,h]
 rfl
noncomputable def gd (O:eM) (t:Nat) (ops:List d4) (d:Option Nat) (l:List d4) (env:List (Nat×AV)) (mem:List (Nat×List AV)) (sh:Sh) (ah:aM):Option AV→Option St
 | some (.pv (.bool c))=>if Dc t ops=true then (if c=true then bW O (ops.map (qO t true)) ⟨dL env t (.pv (.bool true)),mem,sh,ah⟩
     else bW O (ops.map (qO t false)) ⟨dL env t (.pv (.bool false)),mem,sh,ah⟩) else bW O ops ⟨env,mem,sh,ah⟩
 | some .un=>bW O l ⟨gg env d .un,mem,sh,ah⟩
 | _=>bW O ops ⟨env,mem,sh,ah⟩
theorem Gk {d:Option Nat} {t:Nat} {b:Bool} {args:List eL} {op:AK} {l:List d4} {env:List (Nat×AV)} {mem:List (Nat×List AV)} {sh:Sh} {ah:aM} :
   bW O (⟨d,some (t,b),args,op⟩::l) ⟨env,mem,sh,ah⟩=gd O t (⟨d,some (t,b),args,op⟩::l) d l env mem sh ah (look env t):=by
 unfold gd
 split
 · rename_i c h
   split
   · rename_i hn;exact wx h hn
   · rfl
 · rename_i h;exact ue h
 · rfl
theorem JY {t:Nat} {ops:List d4} {d:Option Nat} {l:List d4} {env:List (Nat×AV)} {mem:List (Nat×List AV)} {sh:Sh} {ah:aM} {c:Bool}:gd O t ops d l env mem sh ah (some (.pv (.bool c))) =
   if Dc t ops=true then (if c=true then bW O (ops.map (qO t true)) ⟨dL env t (.pv (.bool true)),mem,sh,ah⟩
     else bW O (ops.map (qO t false)) ⟨dL env t (.pv (.bool false)),mem,sh,ah⟩) else bW O ops ⟨env,mem,sh,ah⟩:=rfl
theorem Ol {t:Nat} {ops:List d4} {d:Option Nat} {l:List d4} {env:List (Nat×AV)} {mem:List (Nat×List AV)} {sh:Sh} {ah:aM}:gd O t ops d l env mem sh ah (some .un)=bW O l ⟨gg env d .un,mem,sh,ah⟩:=rfl
theorem JZ {t:Nat}:Dc t []=true:=rfl
theorem Gl {t d:Nat} {g:Option (Nat×Bool)} {args:List eL} {op:AK} {l:List d4}:Dc t (⟨some d,g,args,op⟩::l)=(!(decide (d=t)) && Dc t l):=by
 simp only [Dc]
 congr 1
theorem Gm {t:Nat} {g:Option (Nat×Bool)} {args:List eL} {op:AK} {l:List d4}:Dc t (⟨none,g,args,op⟩::l)=Dc t l:=by
 simp [Dc]
theorem Df {t:Nat} {b:Bool} {d:Option Nat} {args:List eL} {op:AK}:qO t b ⟨d,none,args,op⟩=⟨d,none,args,op⟩:=rfl
theorem Dg {t t':Nat} {b b':Bool} {d:Option Nat} {args:List eL} {op:AK}:qO t b ⟨d,some (t',b'),args,op⟩=if t'=t then (if b'=b then ⟨d,none,args,op⟩ else ⟨d,none,[.c .un],.v .mv⟩) else ⟨d,some (t',b'),args,op⟩:=rfl
theorem wy {d k:Option Nat} {env:List (Nat×AV)} {mem:List (Nat×List AV)} {v:AV} {cs:Option (List AV)} {sh:Sh} {ah:aM} :
   qN d k env mem (some ⟨v,cs,sh,ah⟩)=some ⟨gg env d v,fp mem k cs,sh,ah⟩:=rfl
theorem yZ {d k:Option Nat} {env:List (Nat×AV)} {mem:List (Nat×List AV)} {c:Prop} [Decidable c] {x y:Option Out}:qN d k env mem (if c then x else y)=if c then qN d k env mem x else qN d k env mem y:=by split<;>rfl
theorem y1 {op:AK} {vals:List AV} {cells:Option (List AV)} {sh:Sh} {ah:aM}:Gj O op (some vals) cells sh ah=exec O op vals cells sh ah:=rfl
def Gn (sh:Sh) (ah:aM):Option AV→Option Out
 | some x=>some ⟨x,none,sh,ah⟩
 | none=>none
theorem Dh {sh:Sh} {ah:aM} {x:AV}:Gn sh ah (some x)=some ⟨x,none,sh,ah⟩:=rfl
variable {vals:List AV} {cells:Option (List AV)} {sh:Sh} {ah:aM}
theorem MY {o:FY}:exec O (.v o) vals cells sh ah=Gn sh ah (bP o vals):=by
 show (bP o vals).map _=_
 cases bP o vals<;>rfl
theorem gP {key off sz d o:Nat} {ag:Bool} {cs:List AV}:exec O (.bl key off sz ag) [.az d o] (some cs) sh ah=if d=key∧o=off then Gn sh ah (cf ag sz cs off) else none:=by
 show (if d=key∧o=off then (cf ag sz cs off).map _ else none)=_
 cases cf ag sz cs off<;>rfl
theorem gZ {key off sz d o:Nat} {v:AV} {cs:List AV}:exec O (.dc key off sz) [.az d o,v] (some cs) sh ah =
   if d=key∧o=off∧(br v).length=sz∧(br v).all bm=true then if off+sz≤cs.length then some ⟨.un,some (bA cs off (br v)),sh,ah⟩ else none else none:=rfl
theorem iM {key:Nat} {zero:List PV}:exec O (.alloc key zero) [] none sh ah=some ⟨.az key 0,some (zero.map bP.zeroCell),sh,ah⟩:=rfl
theorem kB {key sz:Nat} {v:AV}:exec O (.box key sz) [v] none sh ah=if (br v).length=sz∧(br v).all bm=true then some ⟨.az key 0,some (br v),sh,ah⟩ else none:=rfl
theorem wz {sz:Nat} {ag:Bool} {cs:List PV}:exec O (.a6 sz ag) [.dz cs] cells sh ah=Gn sh ah (cS ag sz cs):=by
 show (cS ag sz cs).map _=_
 cases cS ag sz cs<;>rfl
def qP (ag:Bool) (sz off:Nat):Option (Option (List AV))→Option AV
 | some (some cs)=>if cR cs=true then none else cf ag sz cs off
 | _=>none
theorem pg {ag:Bool} {sz off:Nat} {cs:List AV}:qP ag sz off (some (some cs))=if cR cs=true then none else cf ag sz cs off:=rfl
theorem wA {sz b off:Nat} {ag:Bool}:exec O (.a6 sz ag) [.a_ b off] cells sh ah=Gn sh ah (qP ag sz off sh[b]?):=by
 show (match sh[b]? with | some (some cs)=>if cR cs=true then none else (cf ag sz cs off).map _ | _=>none)=_
 split
 · rename_i cs h
   rw [h,pg]
   split
   · rfl
   · cases cf ag sz cs off<;>rfl
 · rename_i h
   unfold qP
   split
   · rename_i cs e;exact absurd e (h cs)
   · rfl
def uf (b off sz:Nat) (vs:List AV) (sh:Sh) (ah:aM):Option (Option (List AV))→Option Out
 | some (some cs)=>if cR cs=false∧vs.length=sz∧off+sz≤cs.length∧vs.all d_=true∧vs.all (aS (b+1))=true then some ⟨.un,none,sh.set b (some (bA cs off vs)),ah⟩ else none
 | _=>none
theorem nh {b off sz:Nat} {vs cs:List AV}:uf b off sz vs sh ah (some (some cs))=if cR cs=false∧vs.length=sz∧off+sz≤cs.length∧vs.all d_=true∧vs.all (aS (b+1))=true then some ⟨.un,none,sh.set b (some (bA cs off vs)),ah⟩ else none:=rfl
theorem i_ {sz b off:Nat} {v:AV}:exec O (.cz sz) [.a_ b off,v] cells sh ah=uf b off sz (cp v) sh ah sh[b]?:=by
 show (match sh[b]? with | some (some cs)=>_ | _=>none)=_
 split
 · rename_i cs h
   rw [h,nh]
 · rename_i h
   unfold uf
   split
   · rename_i cs e;exact absurd e (h cs)
   · rfl
theorem lh {sz:Nat} {v:AV}:exec O (.l4 sz) [v] cells sh ah=if (cp v).length=sz∧(cp v).all d_=true∧(cp v).all (aS sh.length)=true then some ⟨.a_ sh.length 0,none,sh++[some (cp v)],ah⟩ else none:=rfl
theorem ja {zero:List PV}:exec O (.ia zero) [] cells sh ah=some ⟨.a_ sh.length 0,none,sh++[some (zero.map bP.zeroCell)],ah⟩:=rfl
theorem jK {sz bytes:Nat} {ag:Bool} {zero:List PV} {k k':IntKind} {n n':Int}:exec O (.jm sz bytes ag zero) [.pv (.int k n),.pv (.int k' n')] cells sh ah =
   if n=n'∧0≤n∧n≤9223372036854775807∧n*bytes≤140737488355328∧zero.length=sz then some ⟨.bu sh.length sz n.toNat ag,none,sh++[some ((List.replicate n.toNat (zero.map .pv)).flatten)],ah⟩ else none:=rfl
theorem Gp:cR []=false:=rfl
theorem J0 {p:PV} {r:List AV}:cR (.pv p::r)=false:=rfl
theorem Gq {l:List PV} {r:List AV}:cR (.bD l::r)=false:=rfl
theorem Gr {l:List PV} {τ:Nat} {r:List AV}:cR (.own l τ::r)=false:=rfl
theorem Di {b o:Nat} {r:List AV}:cR (.a_ b o::r)=false:=rfl
theorem Dj {b z n:Nat} {ag:Bool} {r:List AV}:cR (.bu b z n ag::r)=false:=rfl
theorem J3 {g:Nat} {c r:List AV}:cR (.fn g c::r)=false:=rfl
theorem Dk {r:List AV}:cR (.dw::r)=false:=rfl
theorem Dl {s:Nat} {r:List AV}:cR (.cv s::r)=false:=rfl
theorem Dm {kvs:List (PV×PV)} {r:List AV}:cR (.du kvs::r)=true:=rfl
theorem jL:exec O .ko [] cells sh ah=some ⟨.cv sh.length,none,sh++[some [.du []]],ah⟩:=rfl
def MZ (ok:Bool) (z:PV) (sh:Sh) (ah:aM):Option (Option PV)→Option Out
 | some r=>some ⟨il ok z r,none,sh,ah⟩
 | none=>none
theorem Dn {ok:Bool} {z:PV} {r:Option PV}:MZ ok z sh ah (some r)=some ⟨il ok z r,none,sh,ah⟩:=rfl
theorem ug {z:PV} {r:Option PV}:il true z r=.lL [.pv (r.getD z),.pv (.bool r.isSome)]:=rfl
theorem sf {z:PV} {r:Option PV}:il false z r=.pv (r.getD z):=rfl
def Gt (c:CK) (ok:Bool) (z k:PV) (sh:Sh) (ah:aM):Option (Option (List AV))→Option Out
 | some (some [.du kvs])=>MZ ok z sh ah (ic c kvs k)
 | _=>none
theorem qQ {c:CK} {ok:Bool} {z k:PV} {kvs:List (PV×PV)}:Gt c ok z k sh ah (some (some [.du kvs]))=MZ ok z sh ah (ic c kvs k):=rfl
theorem iN {c:CK} {ok:Bool} {z k:PV} {s:Nat}:exec O (.iB c ok z) [.cv s,.pv k] cells sh ah=Gt c ok z k sh ah sh[s]?:=by
 show (match sh[s]? with | some (some [.du kvs])=>(ic c kvs k).map _ | _=>none)=_
 split
 · rename_i kvs h
   rw [h,qQ]
   cases ic c kvs k<;>rfl
 · rename_i h
   unfold Gt
   split
   · rename_i kvs e;exact absurd e (h kvs)
   · rfl
def M0 (s:Nat) (sh:Sh) (ah:aM):Option (List (PV×PV))→Option Out
 | some kvs=>some ⟨.un,none,sh.set s (some [.du kvs]),ah⟩
 | none=>none
theorem Dp {s:Nat} {kvs:List (PV×PV)}:M0 s sh ah (some kvs)=some ⟨.un,none,sh.set s (some [.du kvs]),ah⟩:=rfl
def M1 (c:CK) (s:Nat) (k:PV) (sh:Sh) (ah:aM):Option (Option (List AV))→Option PV→Option Out
 | some (some [.du kvs]),some p=>M0 s sh ah (iV c kvs k p)
 | _,_=>none
theorem sY {c:CK} {s:Nat} {k p:PV} {kvs:List (PV×PV)}:M1 c s k sh ah (some (some [.du kvs])) (some p)=M0 s sh ah (iV c kvs k p):=rfl
theorem lj {c:CK} {k:PV} {s:Nat} {v:AV}:exec O (.mM c) [.cv s,.pv k,v] cells sh ah=M1 c s k sh ah sh[s]? (c_ [] v):=by
 show (match sh[s]?,c_ [] v with | some (some [.du kvs]),some p=>(iV c kvs k p).map _ | _,_=>none)=_
 split
 · rename_i kvs p h1 h2
   rw [h1,h2,sY]
   cases iV c kvs k p<;>rfl
 · rename_i h
   unfold M1
   split
   · rename_i kvs p e1 e2;exact absurd e2 (h kvs p e1)
   · rfl
def M3 (neg:Bool):Option Bool→Option AV
 | some b=>some (.pv (.bool (if neg then !b else b)))
 | none=>none
theorem Dq {neg b:Bool}:M3 neg (some b)=some (.pv (.bool (if neg then !b else b))):=rfl
def M4 (cs:List CK) (neg:Bool):Option PV→Option PV→Option AV
 | some (.agg ps),some (.agg qs)=>M3 neg (cA cs ps qs)
 | _,_=>none
theorem sZ {cs:List CK} {neg:Bool} {ps qs:List PV}:M4 cs neg (some (.agg ps)) (some (.agg qs))=M3 neg (cA cs ps qs):=rfl
theorem J4 {cs:List CK} {neg:Bool} {x y:AV}:bP (.MJ cs neg) [x,y]=M4 cs neg (c_ [] x) (c_ [] y):=by
 show (match c_ [] x,c_ [] y with | some (.agg ps),some (.agg qs)=>(cA cs ps qs).map _ | _,_=>none)=_
 split
 · rename_i ps qs h1 h2
   rw [h1,h2,sZ]
   cases cA cs ps qs<;>rfl
 · rename_i h
   unfold M4
   split
   · rename_i ps qs e1 e2;exact absurd e2 (h ps qs e1)
   · rfl
def Dr (sh:Sh):Option (AV×aM)→Option Out
 | some (v,ts)=>some ⟨v,none,sh,ts⟩
 | none=>none
theorem Du {v:AV} {ts:aM}:Dr sh (some (v,ts))=some ⟨v,none,sh,ts⟩:=rfl
theorem Gu {c:Prop} [Decidable c] {x y:Option (AV×aM)}:Dr sh (if c then x else y)=if c then Dr sh x else Dr sh y:=by split<;>rfl
theorem jb {sz bytes:Nat} {s x:AV}:exec O (.append sz bytes) [s,x] cells sh ah=Dr sh (cq sz bytes s x ah):=by
 show (cq sz bytes s x ah).map _=_
 cases cq sz bytes s x ah<;>rfl
theorem l_ {sz bytes:Nat} {x:AV}:exec O (.clone sz bytes) [x] cells sh ah=Dr sh (cq sz bytes (.bD []) x ah):=by
 show (cq sz bytes (.bD []) x ah).map _=_
 cases cq sz bytes (.bD []) x ah<;>rfl
def B8 (sz bytes:Nat) (s:AV) (ah:aM):Option (List PV)→Option (AV×aM)
 | some xs=>if bI sz xs=true then
   match s with
   | .bD l=>if xs.isEmpty=true then some (.bD l,ah) else if bI sz l=true∧(l.length+xs.length)*bytes≤140737488355328 then
       some (.own (l++xs) ah.length,ah++[(l++xs).length]) else none
   | .own l τ=>if ah[τ]?=some l.length∧bI sz l=true∧(l.length+xs.length)*bytes≤140737488355328 then
       some (.own (l++xs) τ,ah.set τ (l++xs).length) else none
   | _=>none
   else none
 | none=>none
theorem sj {sz bytes:Nat} {s x:AV}:cq sz bytes s x ah=B8 sz bytes s ah (dY x):=by
 unfold cq B8
 cases dY x<;>rfl
theorem Dv {sz bytes:Nat} {l xs:List PV}:B8 sz bytes (.bD l) ah (some xs)=if bI sz xs=true then if xs.isEmpty=true then some (.bD l,ah) else if bI sz l=true∧(l.length+xs.length)*bytes≤140737488355328 then
       some (.own (l++xs) ah.length,ah++[(l++xs).length]) else none else none:=rfl
theorem Dw {sz bytes τ:Nat} {l xs:List PV}:B8 sz bytes (.own l τ) ah (some xs)=if bI sz xs=true then if ah[τ]?=some l.length∧bI sz l=true∧(l.length+xs.length)*bytes≤140737488355328 then
       some (.own (l++xs) τ,ah.set τ (l++xs).length) else none else none:=rfl
def Dx (ah:aM):Option (AV×Sh)→Option Out
 | some (v,sh)=>some ⟨v,none,sh,ah⟩
 | none=>none
theorem Dy {v:AV} {sh:Sh}:Dx ah (some (v,sh))=some ⟨v,none,sh,ah⟩:=rfl
theorem Gv {c:Prop} [Decidable c] {x y:Option (AV×Sh)}:Dx ah (if c then x else y)=if c then Dx ah x else Dx ah y:=by split<;>rfl
def Gw (sz bytes:Nat) (ag:Bool) (s:AV) (sh:Sh) (ah:aM):Option (List PV)→Option Out
 | some xs=>if bI sz xs=true then Dx ah (qi sz bytes ag s xs sh ah) else none
 | none=>none
theorem y2 {sz bytes:Nat} {ag:Bool} {s:AV} {xs:List PV}:Gw sz bytes ag s sh ah (some xs)=if bI sz xs=true then Dx ah (qi sz bytes ag s xs sh ah) else none:=rfl
theorem jM {sz bytes:Nat} {ag:Bool} {s x:AV}:exec O (.cZ sz bytes ag) [s,x] cells sh ah=Gw sz bytes ag s sh ah (dY x):=by
 simp only [exec,Gw]
 cases dY x with
 | none=>rfl
 | some xs=>
   simp only
   split
   · cases qi sz bytes ag s xs sh ah<;>rfl
   · rfl
def y3 (sz bytes:Nat) (ag:Bool) (b z n:Nat) (g:Bool) (xs:List PV) (sh:Sh):Option (Option (List AV))→Option (AV×Sh)
 | some (some cells)=>if z=sz∧g=ag∧cR cells=false∧n*sz≤cells.length∧(n+xs.length)*bytes≤140737488355328 then
       if xs.isEmpty=true then some (.bu b sz n ag,sh) else some (.bu sh.length sz (n+xs.length) ag,sh.set b none++[some (cells.take (n*sz)++(xs.flatMap bz).map .pv)])
     else none
 | _=>none
theorem wB {sz bytes:Nat} {ag:Bool} {b z n:Nat} {g:Bool} {xs:List PV} {cells:List AV}:y3 sz bytes ag b z n g xs sh (some (some cells))=if z=sz∧g=ag∧cR cells=false∧n*sz≤cells.length∧(n+xs.length)*bytes≤140737488355328 then
       if xs.isEmpty=true then some (.bu b sz n ag,sh) else some (.bu sh.length sz (n+xs.length) ag,sh.set b none++[some (cells.take (n*sz)++(xs.flatMap bz).map .pv)])
     else none:=rfl
theorem Gx {sz bytes:Nat} {ag:Bool} {xs:List PV}:qi sz bytes ag (.bD []) xs sh ah=yz sz bytes ag (.bD []) xs sh:=rfl
theorem Gy {sz bytes τ:Nat} {ag:Bool} {xs:List PV}:qi sz bytes ag (.own [] τ) xs sh ah=if ah[τ]?=some 0 then yz sz bytes ag (.own [] τ) xs sh else none:=rfl
theorem Dz {sz bytes b z n:Nat} {ag g:Bool} {xs:List PV}:qi sz bytes ag (.bu b z n g) xs sh ah=y3 sz bytes ag b z n g xs sh sh[b]?:=by
 simp only [qi,y3]
 rcases sh[b]? with _ | _ | cells<;>rfl
theorem J5 {sz bytes:Nat} {ag:Bool} {s:AV} {xs:List PV}:yz sz bytes ag s xs sh=if xs.isEmpty=true then some (s,sh) else if xs.length*bytes≤140737488355328 then some (.bu sh.length sz xs.length ag,sh++[some ((xs.flatMap bz).map .pv)]) else none:=rfl
def J6 (r:List Nat) (t:Nat) (st:St) (v:AV):Option PV→St
 | some p=>kp r { st with env:=dL st.env t (.pv p),sh:=ep st.sh [v] }
 | none=>kp r (yA v st)
def B9 (d:Nat) (cs:List AV) (st:St):Option (List PV)→St
 | some ps=>{ st with mem:=dL st.mem d (ps.map .pv),sh:=ep st.sh [.agg cs] }
 | none=>st
def Gz (d:Nat) (st:St):Option (List AV)→St
 | some cs=>B9 d cs st (en st.sh cs)
 | none=>st
theorem DA {d:Nat} {st:St}:yA (.az d 0) st=Gz d st (look st.mem d):=by
 simp only [yA]
 cases look st.mem d with
 | none=>rfl
 | some cs=>
   simp only [Gz]
   cases en st.sh cs<;>rfl
theorem y4 {d:Nat} {st:St} {cs:List AV}:Gz d st (some cs)=B9 d cs st (en st.sh cs):=rfl
theorem y5 {d:Nat} {st:St} {cs:List AV} {ps:List PV}:B9 d cs st (some ps)={ st with mem:=dL st.mem d (ps.map .pv),sh:=ep st.sh [.agg cs] }:=rfl
theorem y6 {d:Nat} {st:St} {cs:List AV}:B9 d cs st none=st:=rfl
def J7 (r:List Nat) (t:Nat) (st:St):Option AV→St
 | some v=>J6 r t st v (c_ st.sh v)
 | none=>kp r st
theorem GA {st:St}:kp [] st=st:=rfl
theorem DB {t:Nat} {r:List Nat} {st:St}:kp (t::r) st=J7 r t st (look st.env t):=by
 simp only [kp]
 cases look st.env t with
 | none=>rfl
 | some v=>
   simp only [J7]
   cases c_ st.sh v<;>rfl
theorem DC {r:List Nat} {t:Nat} {st:St} {v:AV}:J7 r t st (some v)=J6 r t st v (c_ st.sh v):=rfl
theorem DD {r:List Nat} {t:Nat} {st:St}:J7 r t st none=kp r st:=rfl
theorem DE {r:List Nat} {t:Nat} {st:St} {v:AV} {p:PV}:J6 r t st v (some p)=kp r { st with env:=dL st.env t (.pv p),sh:=ep st.sh [v] }:=rfl
theorem DF {r:List Nat} {t:Nat} {st:St} {v:AV}:J6 r t st v none=kp r (yA v st):=rfl
def Qt (ah:aM):Option Sh→Option Out
 | some sh=>some ⟨.lL [],none,sh,ah⟩
 | none=>none
theorem DG {sh:Sh}:Qt ah (some sh)=some ⟨.lL [],none,sh,ah⟩:=rfl
def M5 (sz:Nat) (zero:List PV) (sh:Sh) (b off n:Nat):Option (Option (List AV))→Option Sh
 | some (some cells)=>if cR cells=false∧off+n*sz≤cells.length∧zero.length=sz then some (sh.set b (some (bA cells off (List.replicate n (zero.map .pv)).flatten))) else none
 | _=>none
theorem wC {sz b off n:Nat} {zero:List PV} {cells:List AV}:M5 sz zero sh b off n (some (some cells))=if cR cells=false∧off+n*sz≤cells.length∧zero.length=sz then some (sh.set b (some (bA cells off (List.replicate n (zero.map .pv)).flatten))) else none:=rfl
theorem y7 {s:Nat} {z:List PV}:AK.key (.ib s z)=none:=rfl
theorem y8 {sz b n:Nat} {ag lo hi:Bool} {rest:List AV}:bP (.qe sz lo hi) (.bu b sz n ag::rest)=mN sz lo hi (.bu b sz n ag::rest):=rfl
theorem y9 {aW ts:aM} {a b c:Nat}:bS aW ts (.lZ a b c)=(.lZ a b c,aW,ts):=rfl
theorem y_ {live:List Nat} {a b c:Nat}:eo live (.lZ a b c)=true:=rfl
theorem GB {l:List PV}:dY (.pv (.aD l))=some l:=rfl
theorem DH {l:List PV}:dY (.bD l)=some l:=rfl
theorem DI {l:List PV} {τ:Nat}:dY (.own l τ)=some l:=rfl
theorem za {sz:Nat}:bI sz []=true:=rfl
theorem wD {sz:Nat} {p:PV} {r:List PV}:bI sz (p::r)=((bz p).length == sz):=rfl
def M6 (sh:Sh) (ah:aM):Option (List PV)→Option Out
 | some rs=>some ⟨pJ rs,none,sh,ah⟩
 | none=>none
theorem DJ {rs:List PV}:M6 sh ah (some rs)=some ⟨pJ rs,none,sh,ah⟩:=rfl
def GC (O:eM) (g:Nat):Option (List PV)→Option (List PV)
 | some dE=>O.p g dE
 | none=>none
theorem mo {g:Nat} {dE:List PV}:GC O g (some dE)=O.p g dE:=rfl
theorem zb {g:Nat}:exec O (.aA g) vals cells sh ah=M6 sh ah (GC O g (dd [] vals)):=by
 show (match dd [] vals with | some dE=>_ | none=>none)=_
 split
 · rename_i dE h
   rw [h,mo]
   cases O.p g dE<;>rfl
 · rename_i h;rw [h];rfl
theorem wE {g:Nat}:exec O (.dG g) vals cells sh ah=M6 (ep sh vals) ah (GC O g (dd sh vals)):=by
 show (match dd sh vals with | some dE=>_ | none=>none)=_
 split
 · rename_i dE h
   rw [h,mo]
   cases O.p g dE<;>rfl
 · rename_i h;rw [h];rfl
def M7 (n:Nat) (ts0:aM):Option (List AV×Sh×aM)→Option Out
 | some (rs,sh',ts)=>some ⟨mO (rs.map (cI n)),none,fK n sh',ts0++ts⟩
 | none=>none
theorem DK {n:Nat} {ts0:aM} {rs:List AV} {sh':Sh} {ts:aM}:M7 n ts0 (some (rs,sh',ts))=some ⟨mO (rs.map (cI n)),none,fK n sh',ts0++ts⟩:=rfl
def B_ (O:eM) (g n:Nat) (q:List AV×Sh×aM×aM):Option Out:=M7 n q.2.2.1 (O.i g q.1 q.2.1 q.2.2.2)
theorem GD {g n:Nat} {a:List AV} {s:Sh} {o t:aM}:B_ O g n (a,s,o,t)=M7 n o (O.i g a s t):=rfl
def wF (O:eM) (g:Nat) (args:List AV) (sh:Sh) (ah:aM):Option Out:=
 if args.all ca=true then B_ O g ah.length (dh ah args sh) else none
theorem GF {g:Nat} {args:List AV}:wF O g args sh ah=if args.all ca=true then B_ O g ah.length (dh ah args sh) else none:=rfl
theorem ph {g:Nat} {own:List Nat}:(eA O g own vals sh ah).map (fun (v,sh',ts)=>(⟨v,none,sh',ts⟩:Out))=wF O g (eH own 0 vals) sh ah:=by
 unfold eA wF B_
 split
 · cases O.i g (dh ah (eH own 0 vals) sh).1 (dh ah (eH own 0 vals) sh).2.1 (dh ah (eH own 0 vals) sh).2.2.2 with
   | none=>rfl
   | some q=>obtain ⟨a,b,c⟩:=q;rfl
 · rfl
theorem zc {g:Nat} {own:List Nat}:exec O (.aL g own) vals cells sh ah=wF O g (eH own 0 vals) sh ah:=ph
theorem iR {g:Nat} {cap:List AV}:exec O .ff (.fn g cap::vals) cells sh ah=wF O g (eH [] 0 (vals++cap)) sh ah:=ph (vals:=vals++cap)
def Om (sh:Sh) (ah:aM):Option (List AV×Sh×aM)→Option Out
 | some (rs,[],ts)=>some ⟨mO (rs.map (cI ah.length)),none,sh,ah++ts⟩
 | _=>none
theorem DL {rs:List AV} {ts:aM}:Om sh ah (some (rs,[],ts))=some ⟨mO (rs.map (cI ah.length)),none,sh,ah++ts⟩:=rfl
def GG (O:eM) (g:Nat):Option (List PV)→Option (List AV×Sh×aM)
 | some dE=>O.i g (dE.map .pv) [] []
 | none=>none
theorem pj {g:Nat} {dE:List PV}:GG O g (some dE)=O.i g (dE.map .pv) [] []:=rfl
theorem zd {g:Nat}:exec O (.jn g) vals cells sh ah=Om sh ah (GG O g (dd [] vals)):=by
 show (match dd [] vals with | some dE=>_ | none=>none)=_
 split
 · rename_i dE h
   rw [h,pj]
   cases O.i g (dE.map .pv) [] [] with
   | none=>rfl
   | some q=>
     obtain ⟨a,b,c⟩:=q
     cases b<;>rfl
 · rename_i h;rw [h];rfl
theorem ze {own:List Nat} {i:Nat}:eH own i []=[]:=rfl
theorem wG {own:List Nat} {i:Nat} {v:AV} {r:List AV}:eH own i (v::r)=(if own.contains i then v else iW v)::eH own (i+1) r:=rfl
theorem GH {p:PV}:iW (.pv p)=.pv p:=rfl
theorem DM {l:List PV}:iW (.bD l)=.pv (.aD l):=rfl
theorem DN {l:List PV} {τ:Nat}:iW (.own l τ)=.pv (.aD l):=rfl
theorem zg {b o:Nat}:iW (.a_ b o)=.a_ b o:=rfl
theorem GI {g:Nat} {cap:List AV}:iW (.fn g cap)=.fn g cap:=rfl
theorem zh {b s n:Nat} {ag:Bool}:iW (.bu b s n ag)=.bu b s n ag:=rfl
theorem zi:iW .dw=.dw:=rfl
theorem zj {s:Nat}:iW (.cv s)=(.cv s):=rfl
def uh (cs:List AV):Option (List PV)→AV
 | some ps=>.pv (.agg ps)
 | none=>.agg cs
theorem DO {cs:List AV}:iW (.agg cs)=uh cs (en [] cs):=by
 have h:c_ [] (.agg cs)=(en [] cs).map .agg:=rfl
 unfold iW uh
 rw [h]
 cases en [] cs<;>rfl
theorem wH {cs:List AV} {ps:List PV}:uh cs (some ps)=.pv (.agg ps):=rfl
def ni {α:Type}:Option α→Option (List α)→Option (List α)
 | some x,some l=>some (x::l)
 | _,_=>none
theorem zk {α:Type} {x:α} {l:List α}:ni (some x) (some l)=some (x::l):=rfl
theorem zm {env:List (Nat×AV)}:d5 env []=some []:=rfl
theorem wI {env:List (Nat×AV)} {x:eL} {r:List eL}:d5 env (x::r)=ni (gJ env x) (d5 env r):=by
 simp only [d5]
 cases gJ env x<;>cases d5 env r<;>rfl
theorem J8 {env:List (Nat×AV)} {n:Nat}:gJ env (.t n)=look env n:=rfl
theorem J9 {env:List (Nat×AV)} {v:AV}:gJ env (.c v)=some v:=rfl
theorem GJ:fh []=some []:=rfl
theorem oi {v:AV} {r:List AV}:fh (v::r)=ni (jC v) (fh r):=by
 simp only [fh]
 cases jC v<;>cases fh r<;>rfl
theorem zn:dd sh []=some []:=rfl
theorem wJ {v:AV} {r:List AV}:dd sh (v::r)=ni (c_ sh v) (dd sh r):=by
 simp only [dd]
 cases c_ sh v<;>cases dd sh r<;>rfl
theorem DP:en sh []=some []:=rfl
theorem zo {v:AV} {r:List AV}:en sh (v::r)=if bm v=true then ni (di sh v) (en sh r) else none:=by
 simp only [en]
 split
 · cases di sh v<;>cases en sh r<;>rfl
 · rfl
theorem J_ {p:PV}:jC (.pv p)=some p:=rfl
theorem GK {l:List PV}:jC (.bD l)=some (.aD l):=rfl
theorem GL {l:List PV} {τ:Nat}:jC (.own l τ)=some (.aD l):=rfl
theorem M8 {p:PV}:c_ sh (.pv p)=some p:=rfl
theorem J' {l:List PV}:c_ sh (.bD l)=some (.aD l):=rfl
theorem Ka {l:List PV} {τ:Nat}:c_ sh (.own l τ)=some (.aD l):=rfl
def On:Option (List PV)→Option PV
 | some ps=>some (.agg ps)
 | none=>none
theorem DQ {ps:List PV}:On (some ps)=some (.agg ps):=rfl
theorem Kb {cs:List AV}:c_ sh (.agg cs)=On (en sh cs):=by
 simp only [c_]
 cases en sh cs<;>rfl
theorem zp {p:PV}:di sh (.pv p)=some p:=rfl
theorem wK {l:List PV}:di sh (.bD l)=some (.aD l):=rfl
theorem wL {l:List PV} {τ:Nat}:di sh (.own l τ)=some (.aD l):=rfl
theorem ui {b o:Nat}:di sh (.a_ b o)=none:=rfl
theorem zq {g:Nat} {c:List AV}:di sh (.fn g c)=none:=rfl
theorem uj:di sh .dw=none:=rfl
theorem uk {s:Nat}:di sh (.cv s)=none:=rfl
theorem GM {b o:Nat}:c_ sh (.a_ b o)=none:=rfl
theorem M9 {g:Nat} {c:List AV}:c_ sh (.fn g c)=none:=rfl
theorem GN:c_ sh .dw=none:=rfl
theorem GO {s:Nat}:c_ sh (.cv s)=none:=rfl
def Kc (sz n:Nat) (ag:Bool):Option (Option (List AV))→Option PV
 | some (some cells)=>if cells.length=n*sz then ((fh cells).bind (fm sz ag n)).map .aD
   else if cR cells=false∧n*sz≤cells.length then ((fh (cells.take (n*sz))).bind (fm sz ag n)).map .aD else none
 | _=>none
theorem um {b sz n:Nat} {ag:Bool}:di sh (.bu b sz n ag)=Kc sz n ag sh[b]?:=rfl
theorem GP {b sz n:Nat} {ag:Bool}:c_ sh (.bu b sz n ag)=Kc sz n ag sh[b]?:=rfl
theorem DR {sz n:Nat} {ag:Bool} {cells:List AV}:Kc sz n ag (some (some cells))=if cells.length=n*sz then ((fh cells).bind (fm sz ag n)).map .aD else if cR cells=false∧n*sz≤cells.length then ((fh (cells.take (n*sz))).bind (fm sz ag n)).map .aD else none:=rfl
theorem GQ {r:PV}:pJ [r]=.pv r:=rfl
theorem GR:pJ []=.lL []:=rfl
theorem GS {a b:PV} {r:List PV}:pJ (a::b::r)=.lL (.pv a::.pv b::r.map .pv):=rfl
theorem GU {r:AV}:mO [r]=r:=rfl
theorem GV:mO []=.lL []:=rfl
theorem GW {a b:AV} {r:List AV}:mO (a::b::r)=.lL (a::b::r):=rfl
theorem GX {xs:List AV}:dh ah xs sh=((bL ah [] xs).1,(b_ (bL ah [] xs).2.1 (bL ah [] xs).2.2 sh).1,(b_ (bL ah [] xs).2.1 (bL ah [] xs).2.2 sh).2.1,(b_ (bL ah [] xs).2.1 (bL ah [] xs).2.2 sh).2.2):=rfl
theorem DS {aW ts:aM}:bL aW ts []=([],aW,ts):=rfl
theorem qR {aW ts:aM} {v:AV} {r:List AV}:bL aW ts (v::r)=((bS aW ts v).1::(bL (bS aW ts v).2.1 (bS aW ts v).2.2 r).1,(bL (bS aW ts v).2.1 (bS aW ts v).2.2 r).2):=rfl
theorem DT {aW ts:aM}:b_ aW ts []=([],aW,ts):=rfl
theorem qS {aW ts:aM} {r:Sh}:b_ aW ts (none::r)=(none::(b_ aW ts r).1,(b_ aW ts r).2):=rfl
theorem qT {aW ts:aM} {cs:List AV} {r:Sh}:b_ aW ts (some cs::r)=(some (bL aW ts cs).1::(b_ (bL aW ts cs).2.1 (bL aW ts cs).2.2 r).1,(b_ (bL aW ts cs).2.1 (bL aW ts cs).2.2 r).2):=rfl
theorem DU {aW ts:aM}:dB aW ts []=([],aW,ts):=rfl
theorem zs {aW ts:aM} {t:Nat} {v:AV} {r:List (Nat×AV)}:dB aW ts ((t,v)::r)=((t,(bS aW ts v).1)::(dB (bS aW ts v).2.1 (bS aW ts v).2.2 r).1,(dB (bS aW ts v).2.1 (bS aW ts v).2.2 r).2):=rfl
theorem DV {aW ts:aM}:eQ aW ts []=([],aW,ts):=rfl
theorem zt {aW ts:aM} {t:Nat} {v:List AV} {r:List (Nat×List AV)}:eQ aW ts ((t,v)::r)=((t,(bL aW ts v).1)::(eQ (bL aW ts v).2.1 (bL aW ts v).2.2 r).1,(eQ (bL aW ts v).2.1 (bL aW ts v).2.2 r).2):=rfl
theorem DW {aW ts:aM} {l:List PV} {τ:Nat}:bS aW ts (.own l τ)=if aW[τ]?=some l.length then (.own l ts.length,aW.set τ (l.length+1),ts++[l.length]) else (.pv (.aD l),aW,ts):=rfl
theorem DX {aW ts:aM} {l:List PV}:bS aW ts (.bD l)=(.own l ts.length,aW,ts++[l.length]):=rfl
theorem GY {aW ts:aM}:bS aW ts .un=(.un,aW,ts):=rfl
theorem wM {aW ts:aM} {p:PV}:bS aW ts (.pv p)=(.pv p,aW,ts):=rfl
def zu (aW ts:aM) (p:List AV):Bool→AV×aM×aM
 | true=>(.agg p,aW,ts)
 | false=>(.agg (cT aW ts p).1,(cT aW ts p).2.1,(cT aW ts p).2.2)
theorem DY {aW ts:aM} {p:List AV}:bS aW ts (.agg p)=zu aW ts p (bK.dX p):=by
 simp only [bS]
 cases bK.dX p<;>rfl
theorem wO {aW ts:aM} {p:List AV}:zu aW ts p true=(.agg p,aW,ts):=rfl
theorem uo {aW ts:aM} {p:List AV}:zu aW ts p false=(.agg (cT aW ts p).1,(cT aW ts p).2.1,(cT aW ts p).2.2):=rfl
theorem zw {aW ts:aM}:cT aW ts []=([],aW,ts):=rfl
theorem wP {aW ts:aM} {v:AV} {r:List AV}:cT aW ts (v::r)=((dJ aW ts v).1::(cT (dJ aW ts v).2.1 (dJ aW ts v).2.2 r).1,(cT (dJ aW ts v).2.1 (dJ aW ts v).2.2 r).2):=rfl
theorem DZ {aW ts:aM} {l:List PV} {τ:Nat}:dJ aW ts (.own l τ)=if aW[τ]?=some l.length then (.own l ts.length,aW.set τ (l.length+1),ts++[l.length]) else (.pv (.aD l),aW,ts):=rfl
theorem GZ {aW ts:aM} {p:PV}:dJ aW ts (.pv p)=(.pv p,aW,ts):=rfl
theorem D0 {aW ts:aM} {p:List PV}:dJ aW ts (.bD p)=(.bD p,aW,ts):=rfl
theorem zx {aW ts:aM} {a b:Nat}:dJ aW ts (.a_ a b)=(.a_ a b,aW,ts):=rfl
theorem zy {aW ts:aM} {a b c:Nat} {d:Bool}:dJ aW ts (.bu a b c d)=(.bu a b c d,aW,ts):=rfl
theorem G6 {aW ts:aM} {a:Nat} {c:List AV}:dJ aW ts (.fn a c)=(.fn a c,aW,ts):=rfl
theorem zz {aW ts:aM}:dJ aW ts .dw=(.dw,aW,ts):=rfl
theorem zA {s:Nat} {aW ts:aM}:dJ aW ts (.cv s)=((.cv s),aW,ts):=rfl
theorem D1 {aW ts:aM} {p:List AV}:bS aW ts (.lL p)=(.lL p,aW,ts):=rfl
theorem zB {aW ts:aM} {a b:Nat}:bS aW ts (.az a b)=(.az a b,aW,ts):=rfl
theorem zD {aW ts:aM} {a b:Nat}:bS aW ts (.a_ a b)=(.a_ a b,aW,ts):=rfl
theorem zE {aW ts:aM} {a:List PV}:bS aW ts (.dz a)=(.dz a,aW,ts):=rfl
theorem zF {aW ts:aM} {a b c:Nat} {d:Bool}:bS aW ts (.bu a b c d)=(.bu a b c d,aW,ts):=rfl
theorem G7 {aW ts:aM} {a:Nat} {c:List AV}:bS aW ts (.fn a c)=(.fn a c,aW,ts):=rfl
theorem zG {aW ts:aM}:bS aW ts .dw=(.dw,aW,ts):=rfl
theorem zH {s:Nat} {aW ts:aM}:bS aW ts (.cv s)=((.cv s),aW,ts):=rfl
theorem zI {s:List (PV×PV)} {aW ts:aM}:bS aW ts (.du s)=((.du s),aW,ts):=rfl
theorem Kd {env:List (Nat×AV)} {mem:List (Nat×List AV)}:norm ⟨env,mem,sh,ah⟩ =
   { env:=(dB ah [] env).1,
     mem:=(eQ (dB ah [] env).2.1 (dB ah [] env).2.2 mem).1,
     sh:=(b_ (eQ (dB ah [] env).2.1 (dB ah [] env).2.2 mem).2.1 (eQ (dB ah [] env).2.1 (dB ah [] env).2.2 mem).2.2 sh).1,
     ah:=(b_ (eQ (dB ah [] env).2.1 (dB ah [] env).2.2 mem).2.1 (eQ (dB ah [] env).2.1 (dB ah [] env).2.2 mem).2.2 sh).2.2 }:=rfl
theorem wQ {live:List Nat} {env:List (Nat×AV)} {mem:List (Nat×List AV)}:restrict live ⟨env,mem,sh,ah⟩=⟨bX live env live,bY mem live,sh,ah⟩:=rfl
def G8 (live:List Nat) (t:Nat) (rest:List (Nat×AV)):Option AV→List (Nat×AV)
 | some v=>if eo live v=true then (t,v)::rest else rest
 | none=>rest
theorem zJ {live:List Nat} {t:Nat} {rest:List (Nat×AV)} {v:AV}:G8 live t rest (some v)=if eo live v=true then (t,v)::rest else rest:=rfl
theorem zK {live:List Nat} {t:Nat} {rest:List (Nat×AV)}:G8 live t rest none=rest:=rfl
theorem pM {live:List Nat} {env:List (Nat×AV)}:bX live env []=[]:=rfl
theorem oj {live:List Nat} {env:List (Nat×AV)} {t:Nat} {r:List Nat}:bX live env (t::r)=G8 live t (bX live env r) (look env t):=by
 show (match look env t with | some v=>_ | none=>_)=_
 cases look env t<;>rfl
def G9 (t:Nat) (rest:List (Nat×List AV)):Option (List AV)→List (Nat×List AV)
 | some v=>(t,v)::rest
 | none=>rest
theorem zL {t:Nat} {rest:List (Nat×List AV)} {v:List AV}:G9 t rest (some v)=(t,v)::rest:=rfl
theorem zM {t:Nat} {rest:List (Nat×List AV)}:G9 t rest none=rest:=rfl
theorem pN {mem:List (Nat×List AV)}:bY mem []=[]:=rfl
theorem om {mem:List (Nat×List AV)} {t:Nat} {r:List Nat}:bY mem (t::r)=G9 t (bY mem r) (look mem t):=by
 show (match look mem t with | some v=>_ | none=>_)=_
 cases look mem t<;>rfl
theorem zN {live:List Nat} {d o:Nat}:eo live (.az d o)=live.contains d:=rfl
theorem D2 {live:List Nat} {l:List PV} {τ:Nat}:eo live (.own l τ)=true:=rfl
theorem G_ {live:List Nat}:eo live .un=true:=rfl
theorem Ha {live:List Nat} {p:PV}:eo live (.pv p)=true:=rfl
theorem D3 {live:List Nat} {l:List PV}:eo live (.bD l)=true:=rfl
theorem D4 {live:List Nat} {l:List AV}:eo live (.agg l)=fJ l:=rfl
theorem zP:fJ []=true:=rfl
theorem wR {v:AV} {r:List AV}:fJ (v::r)=(gH v && fJ r):=rfl
theorem D5 {l:List PV} {τ:Nat}:gH (.own l τ)=true:=rfl
theorem Hb {p:PV}:gH (.pv p)=true:=rfl
theorem D6 {l:List PV}:gH (.bD l)=true:=rfl
theorem zQ {a b:Nat}:gH (.a_ a b)=true:=rfl
theorem zR {a b c:Nat} {d:Bool}:gH (.bu a b c d)=true:=rfl
theorem Hc {a:Nat} {c:List AV}:gH (.fn a c)=bK.dX c:=rfl
theorem D7 {c:List AV}:gH (.agg c)=bK.dX c:=rfl
theorem zT:gH .dw=true:=rfl
theorem He:gH .un=true:=rfl
theorem zU {s:Nat}:gH (.cv s)=true:=rfl
theorem D9 {live:List Nat} {l:List AV}:eo live (.lL l)=bK.dX l:=rfl
theorem zV {live:List Nat} {a b:Nat}:eo live (.a_ a b)=true:=rfl
theorem zW {live:List Nat} {a:List PV}:eo live (.dz a)=true:=rfl
theorem zX {live:List Nat} {a b c:Nat} {d:Bool}:eo live (.bu a b c d)=true:=rfl
theorem Hf {live:List Nat} {a:Nat} {c:List AV}:eo live (.fn a c)=bK.dX c:=rfl
theorem zY {live:List Nat}:eo live .dw=true:=rfl
theorem zZ {s:Nat} {live:List Nat}:eo live (.cv s)=true:=rfl
theorem look_nil {α:Type} {t:Nat}:look ([]:List (Nat×α)) t=none:=rfl
theorem D_ {α:Type} {k t:Nat} {v:α} {r:List (Nat×α)}:look ((k,v)::r) t=if k=t then some v else look r t:=rfl
theorem Hg {α:Type} {t:Nat} {v:α}:dL ([]:List (Nat×α)) t v=[(t,v)]:=rfl
theorem D' {α:Type} {k t:Nat} {v u:α} {r:List (Nat×α)}:dL ((k,v)::r) t u=if k=t then (k,u)::r else (k,v)::dL r t u:=rfl
theorem Ea {env:List (Nat×AV)} {d:Nat} {v:AV}:gg env (some d) v=dL env d v:=rfl
theorem Eb {env:List (Nat×AV)} {v:AV}:gg env none v=env:=rfl
theorem Ec {mem:List (Nat×List AV)} {k:Nat} {cs:List AV}:fp mem (some k) (some cs)=dL mem k cs:=rfl
theorem fc {mem:List (Nat×List AV)} {o:Option (List AV)}:fp mem none o=mem:=rfl
theorem z4 {mem:List (Nat×List AV)} {k:Nat}:fp mem (some k) none=mem:=rfl
theorem uq {i:Nat}:cD i []=[]:=rfl
theorem sk {i:Nat} {v:AV} {r:List AV}:cD i (v::r)=(i,v)::cD (i+1) r:=rfl
theorem z5 {cs:List AV}:br (.agg cs)=cs:=rfl
theorem wS {cs:List PV}:br (.pv (.agg cs))=cs.map .pv:=rfl
theorem wT {b:Bool}:br (.pv (.bool b))=[.pv (.bool b)]:=rfl
theorem z6 {k:IntKind} {n:Int}:br (.pv (.int k n))=[.pv (.int k n)]:=rfl
theorem z7 {s:List UInt8}:br (.pv (.str s))=[.pv (.str s)]:=rfl
theorem z8 {l:List PV}:br (.pv (.aD l))=[.pv (.aD l)]:=rfl
theorem z9 {l:List PV}:br (.bD l)=[.bD l]:=rfl
theorem z_ {l:List PV} {τ:Nat}:br (.own l τ)=[.own l τ]:=rfl
theorem wU {a b:Nat}:br (.a_ a b)=[.a_ a b]:=rfl
theorem wV {a b c:Nat} {d:Bool}:br (.bu a b c d)=[.bu a b c d]:=rfl
theorem Ed {a:Nat} {c:List AV}:br (.fn a c)=[.fn a c]:=rfl
theorem wW:br .dw=[.dw]:=rfl
theorem wX {s:Nat}:br (.cv s)=[(.cv s)]:=rfl
theorem Aa {cs:List PV}:bz (.agg cs)=cs:=rfl
theorem wY {b:Bool}:bz (.bool b)=[.bool b]:=rfl
theorem Ac {k:IntKind} {n:Int}:bz (.int k n)=[.int k n]:=rfl
theorem Ad {s:List UInt8}:bz (.str s)=[.str s]:=rfl
theorem Ae {l:List PV}:bz (.aD l)=[.aD l]:=rfl
theorem Af {b:Bool}:bm (.pv (.bool b))=true:=rfl
theorem Ee {k:IntKind} {n:Int}:bm (.pv (.int k n))=true:=rfl
theorem Ef {s:List UInt8}:bm (.pv (.str s))=true:=rfl
theorem Eg {l:List PV}:bm (.pv (.aD l))=true:=rfl
theorem Eh {l:List PV}:bm (.bD l)=true:=rfl
theorem Ei {l:List PV} {τ:Nat}:bm (.own l τ)=true:=rfl
theorem Ag {a b:Nat}:bm (.a_ a b)=true:=rfl
theorem Ah {a b c:Nat} {d:Bool}:bm (.bu a b c d)=true:=rfl
theorem Hh {a:Nat} {c:List AV}:bm (.fn a c)=bQ.gG c:=rfl
theorem Ai:bm .dw=true:=rfl
theorem Aj {s:Nat}:bm (.cv s)=true:=rfl
theorem Ak {s:List (PV×PV)}:bm (.du s)=true:=rfl
theorem Hi {v:AV}:d_ v=bm v:=rfl
theorem Hj {p:PV}:bQ (.pv p)=true:=rfl
theorem Ej {l:List PV}:bQ (.bD l)=true:=rfl
theorem Al {a b:Nat}:bQ (.a_ a b)=true:=rfl
theorem Am {a b c:Nat} {d:Bool}:bQ (.bu a b c d)=true:=rfl
theorem Ao:bQ .dw=true:=rfl
theorem Ap {s:Nat}:bQ (.cv s)=true:=rfl
theorem Hk {a:Nat} {c:List AV}:bQ (.fn a c)=bQ.gG c:=rfl
theorem Ek {c:List AV}:bQ (.agg c)=bQ.gG c:=rfl
theorem Em:bQ.gG []=true:=rfl
theorem Aq {v:AV} {r:List AV}:bQ.gG (v::r)=(bQ v && bQ.gG r):=rfl
theorem Eo {l:List PV} {τ:Nat}:ca (.own l τ)=true:=rfl
theorem Hl {p:PV}:ca (.pv p)=true:=rfl
theorem Ep {l:List PV}:ca (.bD l)=true:=rfl
theorem Au {a b:Nat}:ca (.a_ a b)=true:=rfl
theorem Av {a b c:Nat} {d:Bool}:ca (.bu a b c d)=true:=rfl
theorem Aw:ca .dw=true:=rfl
theorem Ax {s:Nat}:ca (.cv s)=true:=rfl
theorem Hm {a:Nat} {c:List AV}:ca (.fn a c)=bQ.gG c:=rfl
theorem Er {c:List AV}:ca (.agg c)=eO c:=rfl
theorem Ay:eO []=true:=rfl
theorem wZ {v:AV} {r:List AV}:eO (v::r)=(gI v && eO r):=rfl
theorem Es {l:List PV} {τ:Nat}:gI (.own l τ)=true:=rfl
theorem Hn {p:PV}:gI (.pv p)=true:=rfl
theorem Et {l:List PV}:gI (.bD l)=true:=rfl
theorem Az {a b:Nat}:gI (.a_ a b)=true:=rfl
theorem AA {a b c:Nat} {d:Bool}:gI (.bu a b c d)=true:=rfl
theorem AB:gI .dw=true:=rfl
theorem AD {s:Nat}:gI (.cv s)=true:=rfl
theorem Ho {a:Nat} {c:List AV}:gI (.fn a c)=bQ.gG c:=rfl
theorem Eu {c:List AV}:gI (.agg c)=bQ.gG c:=rfl
theorem Ew:bK.dX []=true:=rfl
theorem AE {v:AV} {r:List AV}:bK.dX (v::r)=(bK v && bK.dX r):=rfl
theorem Hp {p:PV}:bK (.pv p)=true:=rfl
theorem Ey {l:List PV}:bK (.bD l)=true:=rfl
theorem Ez {l:List PV} {τ:Nat}:bK (.own l τ)=false:=rfl
theorem AF {a b:Nat}:bK (.a_ a b)=true:=rfl
theorem AG {a b c:Nat} {d:Bool}:bK (.bu a b c d)=true:=rfl
theorem Hq {a:Nat} {c:List AV}:bK (.fn a c)=bK.dX c:=rfl
theorem AH:bK .dw=true:=rfl
theorem AI {s:Nat}:bK (.cv s)=true:=rfl
theorem Hr:bK .un=true:=rfl
theorem AJ {a b:Nat}:bK (.az a b)=false:=rfl
theorem EA {c:List AV}:bK (.agg c)=bK.dX c:=rfl
theorem EB {n:Nat} {p:PV}:aS n (.pv p)=true:=rfl
theorem AL {n:Nat} {l:List PV}:aS n (.bD l)=true:=rfl
theorem AM {n:Nat} {l:List PV} {τ:Nat}:aS n (.own l τ)=true:=rfl
theorem w0 {n:Nat}:aS n .dw=true:=rfl
theorem w4 {s:Nat} {n:Nat}:aS n (.cv s)=decide (s<n):=rfl
theorem w5 {s:List (PV×PV)} {n:Nat}:aS n (.du s)=true:=rfl
theorem w6 {n a b:Nat}:aS n (.a_ a b)=decide (a<n):=rfl
theorem w7 {n a b c:Nat} {d:Bool}:aS n (.bu a b c d)=decide (a<n):=rfl
theorem EC {n a:Nat} {c:List AV}:aS n (.fn a c)=aS.cO n c:=rfl
theorem AN {n:Nat} {c:List AV}:aS n (.agg c)=aS.cO n c:=rfl
theorem w8 {n:Nat}:aS.cO n []=true:=rfl
theorem ur {n:Nat} {v:AV} {r:List AV}:aS.cO n (v::r)=(aS n v && aS.cO n r):=rfl
theorem AO {n τ:Nat} {l:List PV}:cI n (.own l τ)=.own l (τ+n):=rfl
theorem s6 {n:Nat} {p:PV}:cI n (.pv p)=.pv p:=rfl
theorem AQ {n:Nat} {p:List PV}:cI n (.bD p)=.bD p:=rfl
def uu (n:Nat) (p:List AV):Bool→AV
 | true=>.agg p
 | false=>.agg (p.map (eP n))
theorem AR {n:Nat} {p:List AV}:cI n (.agg p)=uu n p (bK.dX p):=by
 simp only [cI]
 cases bK.dX p<;>rfl
theorem uv {n:Nat} {p:List AV}:uu n p true=.agg p:=rfl
theorem sq {n:Nat} {p:List AV}:uu n p false=.agg (p.map (eP n)):=rfl
theorem AS {n τ:Nat} {l:List PV}:eP n (.own l τ)=.own l (τ+n):=rfl
theorem ED {n:Nat} {p:PV}:eP n (.pv p)=.pv p:=rfl
theorem AT {n:Nat} {p:List PV}:eP n (.bD p)=.bD p:=rfl
theorem w9 {n a b:Nat}:eP n (.a_ a b)=.a_ a b:=rfl
theorem EE {n a:Nat} {b:List AV}:eP n (.fn a b)=.fn a b:=rfl
theorem w_ {n a b c:Nat} {d:Bool}:eP n (.bu a b c d)=.bu a b c d:=rfl
theorem xa {n:Nat}:eP n .dw=.dw:=rfl
theorem xd {s:Nat} {n:Nat}:eP n (.cv s)=(.cv s):=rfl
theorem xe {n a b:Nat}:cI n (.a_ a b)=.a_ a b:=rfl
theorem EF {n a:Nat} {b:List AV}:cI n (.fn a b)=.fn a b:=rfl
theorem xg {n a b c:Nat} {d:Bool}:cI n (.bu a b c d)=.bu a b c d:=rfl
theorem xh {n:Nat}:cI n .dw=.dw:=rfl
theorem xj {s:Nat} {n:Nat}:cI n (.cv s)=(.cv s):=rfl
theorem xl {s:List (PV×PV)} {n:Nat}:cI n (.du s)=(.du s):=rfl
theorem AU {n:Nat}:fK n []=[]:=rfl
theorem pk {n:Nat} {r:Sh}:fK n (none::r)=none::fK n r:=rfl
theorem pn {n:Nat} {cs:List AV} {r:Sh}:fK n (some cs::r)=some (cs.map (cI n))::fK n r:=rfl
theorem sr {b:Bool}:bP.zeroCell (.bool b)=.pv (.bool b):=rfl
theorem uw {k:IntKind} {n:Int}:bP.zeroCell (.int k n)=.pv (.int k n):=rfl
theorem ux {s:List UInt8}:bP.zeroCell (.str s)=.pv (.str s):=rfl
theorem uy:bP.zeroCell (.aD [])=.bD []:=rfl
theorem xm {l:List PV}:cp (.bD l)=[.bD l]:=rfl
theorem xn {l:List PV} {τ:Nat}:cp (.own l τ)=[.own l τ]:=rfl
theorem AW {p:PV}:cp (.pv p)=br (.pv p):=rfl
theorem uz {a b:Nat}:cp (.a_ a b)=[.a_ a b]:=rfl
theorem uA {a b c:Nat} {d:Bool}:cp (.bu a b c d)=[.bu a b c d]:=rfl
theorem AX {a:Nat} {c:List AV}:cp (.fn a c)=[.fn a c]:=rfl
theorem uB:cp .dw=[.dw]:=rfl
theorem uD {s:Nat}:cp (.cv s)=[(.cv s)]:=rfl
def B' (cs:List AV):Option (List PV)→List AV
 | some ps=>ps.map .pv
 | none=>cs
theorem xp {cs:List AV}:cp (.agg cs)=B' cs (en [] cs):=by
 show (match c_ [] (.agg cs) with | some p=>br (.pv p) | none=>br (.agg cs))=_
 have h:c_ [] (.agg cs)=(en [] cs).map .agg:=rfl
 unfold B'
 rw [h]
 cases en [] cs<;>rfl
theorem AY {cs:List AV} {ps:List PV}:B' cs (some ps)=ps.map .pv:=rfl
theorem qU {cs:List AV}:B' cs none=cs:=rfl
theorem Oo {o:FY}:AK.key (.v o)=none:=rfl
theorem EG {k o s:Nat} {a:Bool}:AK.key (.bl k o s a)=some k:=rfl
theorem AZ {k o s:Nat}:AK.key (.dc k o s)=some k:=rfl
theorem EH {k:Nat} {z:List PV}:AK.key (.alloc k z)=some k:=rfl
theorem Ke {k s:Nat}:AK.key (.box k s)=some k:=rfl
theorem EI {s:Nat} {a:Bool}:AK.key (.a6 s a)=none:=rfl
theorem A0 {s:Nat}:AK.key (.cz s)=none:=rfl
theorem Hs {s:Nat}:AK.key (.l4 s)=none:=rfl
theorem A1 {s:List PV}:AK.key (.ia s)=none:=rfl
theorem EJ {s b:Nat} {a:Bool} {z:List PV}:AK.key (.jm s b a z)=none:=rfl
theorem xq {s b:Nat} {ag:Bool}:AK.key (.cZ s b ag)=none:=rfl
theorem A2 {s b:Nat}:AK.key (.append s b)=none:=rfl
theorem EK {g:Nat}:AK.key (.aA g)=none:=rfl
theorem A3 {g:Nat}:AK.key (.dG g)=none:=rfl
theorem EL {g:Nat}:AK.key (.jn g)=none:=rfl
theorem EM {g:Nat} {o:List Nat}:AK.key (.aL g o)=none:=rfl
theorem EN:AK.ko.key=none:=rfl
theorem EO {c:CK} {ok:Bool} {z:PV}:(AK.iB c ok z).key=none:=rfl
theorem Ht {c:CK}:(AK.mM c).key=none:=rfl
theorem EP {sz bytes:Nat}:(AK.clone sz bytes).key=none:=rfl
theorem ER:AK.key .ff=none:=rfl
theorem bind_none {f:Nat→Option (List AV)}:(none:Option Nat).bind f=none:=rfl
theorem bind_some {f:Nat→Option (List AV)} {n:Nat}:(some n).bind f=f n:=rfl
theorem A4 {sz off:Nat} {cs:List AV}:cf true sz cs off=if off+sz≤cs.length then some (.agg ((cs.drop off).take sz)) else none:=rfl
theorem xt {off:Nat} {cs:List AV}:cf false 1 cs off=if off+1≤cs.length then cs[off]? else none:=rfl
theorem xu {sz:Nat} {cs:List PV}:cS true sz cs=if sz≤cs.length then some (.pv (.agg (cs.take sz))) else none:=rfl
theorem uE {c:PV} {cs:List PV}:cS false 1 (c::cs)=some (.pv c):=by simp [cS]
theorem aP {cs vs:List AV} {off:Nat}:bA cs off vs=cs.take off++vs++cs.drop (off+vs.length):=rfl
theorem M_ {x:AV}:bP .mv [x]=some x:=rfl
theorem Hu {c:Bool} {a b:AV}:bP .pick [.pv (.bool c),a,b]=if c=true then some a else some b:=by cases c<;>rfl
theorem Kf {i:Nat} {vs:List AV}:bP (.ext i) [.lL vs]=vs[i]?:=rfl
theorem ES {off sz:Nat} {ag:Bool} {cs:List AV}:bP (.field off sz ag) [.agg cs]=cf ag sz cs off:=rfl
theorem A5 {off sz:Nat} {ag:Bool} {cs:List PV}:bP (.field off sz ag) [.pv (.agg cs)]=cS ag sz (cs.drop off):=rfl
theorem A6 {off d o:Nat}:bP (.bh off) [.az d o]=some (.az d (o+off)):=rfl
theorem A7 {off d o:Nat}:bP (.bh off) [.a_ d o]=some (.a_ d (o+off)):=rfl
theorem A8 {off:Nat} {cs:List PV}:bP (.bh off) [.dz cs]=some (.dz (cs.drop off)):=rfl
def uF (sz:Nat):Option PV→Option AV
 | some el=>if (bz el).length=sz then some (.dz (bz el)) else none
 | none=>none
theorem xv {sz:Nat} {el:PV}:uF sz (some el)=if (bz el).length=sz then some (.dz (bz el)) else none:=rfl
theorem ET {sz:Nat} {l:List PV} {k:IntKind} {i:Int}:bP (.aC sz) [.pv (.aD l),.pv (.int k i)]=if i<0 then none else uF sz l[i.toNat]?:=by
 show (if i<0 then none else _)=_
 split
 · rfl
 · show (match l[i.toNat]? with | some el=>_ | none=>_)=_
   cases l[i.toNat]?<;>rfl
theorem A9 {sz:Nat} {l:List PV} {k:IntKind} {i:Int}:bP (.aC sz) [.bD l,.pv (.int k i)]=if i<0 then none else uF sz l[i.toNat]?:=by
 show (if i<0 then none else _)=_
 split
 · rfl
 · show (match l[i.toNat]? with | some el=>_ | none=>_)=_
   cases l[i.toNat]?<;>rfl
theorem A_ {sz τ:Nat} {l:List PV} {k:IntKind} {i:Int}:bP (.aC sz) [.own l τ,.pv (.int k i)]=if i<0 then none else uF sz l[i.toNat]?:=by
 show (if i<0 then none else _)=_
 split
 · rfl
 · show (match l[i.toNat]? with | some el=>_ | none=>_)=_
   cases l[i.toNat]?<;>rfl
theorem A' {sz b sz' n:Nat} {ag:Bool} {k:IntKind} {i:Int}:bP (.aC sz) [.bu b sz' n ag,.pv (.int k i)]=if i<0 then none else if sz=sz'∧i.toNat<n then some (.a_ b (i.toNat*sz)) else none:=rfl
def Oq:Option UInt8→Option AV
 | some b=>some (.pv (.int .u8 b.toNat))
 | none=>none
theorem Ba {b:UInt8}:Oq (some b)=some (.pv (.int .u8 b.toNat)):=rfl
def Ot:Option (List AV)→Option AV
 | some cs=>some (.agg cs)
 | none=>none
theorem EU {cs:List AV}:Ot (some cs)=some (.agg cs):=rfl
theorem EV {zero:List PV} {places:List (Nat×Nat)}:bP (.build zero places) vals=Ot (ke (zero.map bP.zeroCell) places vals):=by
 show (ke _ _ _).map _=_
 cases ke (zero.map bP.zeroCell) places vals<;>rfl
theorem EW {cs:List AV}:ke cs [] []=some cs:=rfl
theorem Bb {cs:List AV} {off sz:Nat} {ps:List (Nat×Nat)} {v:AV} {vs:List AV}:ke cs ((off,sz)::ps) (v::vs) =
   if (br v).length=sz∧off+sz≤cs.length∧(br v).all bm=true then ke (bA cs off (br v)) ps vs else none:=rfl
def Ou (sz:Nat):Option (List PV)→Option AV
 | some els=>if els.all (fun e=>(bz e).length == sz) then some (.bD els) else none
 | none=>none
theorem EX {sz:Nat} {els:List PV}:Ou sz (some els)=if els.all (fun e=>(bz e).length == sz) then some (.bD els) else none:=rfl
theorem Bc {sz:Nat}:bP (.aT sz) vals=Ou sz (dd [] vals):=by
 show (dd [] vals).bind _=_
 cases dd [] vals<;>rfl
theorem EY {sz:Nat} {ag:Bool} {cs:List PV}:bP (.aK sz ag) [.dz cs]=cS ag sz cs:=rfl
theorem Kg {l:List PV}:bP .len [.pv (.aD l)]=some (.pv (.int .i64 l.length)):=rfl
theorem Hv {l:List PV}:bP .len [.bD l]=some (.pv (.int .i64 l.length)):=rfl
theorem Hw {l:List PV} {τ:Nat}:bP .len [.own l τ]=some (.pv (.int .i64 l.length)):=rfl
theorem Hx {a b n:Nat} {d:Bool}:bP .len [.bu a b n d]=some (.pv (.int .i64 n)):=rfl
theorem Hy {s:List UInt8}:bP .jB [.pv (.str s)]=some (.pv (.int .i64 s.length)):=rfl
theorem Hz {a b:Nat}:bP .a9 [.az a b]=some (.az a b):=rfl
theorem HA {a b:Nat}:bP .a9 [.a_ a b]=some (.a_ a b):=rfl
theorem HB {a:List PV}:bP .a9 [.dz a]=some (.dz a):=rfl
theorem HC {a:Nat} {b:List AV}:bP .a9 [.fn a b]=some (.fn a b):=rfl
theorem Na {k k':IntKind} {x y:Int}:bP .mn [.pv (.int k x),.pv (.int k' y)]=if k=k' then some (.pv (.int k (if y<x then y else x))) else none:=rfl
theorem Nb {k k':IntKind} {x y:Int}:bP .mx [.pv (.int k x),.pv (.int k' y)]=if k=k' then some (.pv (.int k (if y > x then y else x))) else none:=rfl
theorem HD {g:Nat}:bP (.CF g) vals=some (.fn g vals):=by cases vals<;>rfl
theorem HE {k k':IntKind} {n:Int}:bP (.conv k) [.pv (.int k' n)]=some (.pv (.int k (k.wrap n))):=rfl
theorem Kh {b:Bool}:bP (.un .not) [.pv (.bool b)]=some (.pv (.bool !b)):=rfl
theorem Ki {k:IntKind} {n:Int}:bP (.un .neg) [.pv (.int k n)]=some (.pv (.int k (k.wrap (0-n)))):=rfl
theorem Kj {a b:Bool}:bP (.beq false) [.pv (.bool a),.pv (.bool b)]=some (.pv (.bool (a == b))):=rfl
theorem Kk {a b:Bool}:bP (.beq true) [.pv (.bool a),.pv (.bool b)]=some (.pv (.bool !(a == b))):=rfl
theorem Kl {k:IntKind} {a b:Int}:bP (.bin .add) [.pv (.int k a),.pv (.int k b)]=some (.pv (.int k (k.wrap (a+b)))):=by simp [bP,dv]
theorem Km {k:IntKind} {a b:Int}:bP (.bin .sub) [.pv (.int k a),.pv (.int k b)]=some (.pv (.int k (k.wrap (a-b)))):=by simp [bP,dv]
theorem Ko {k:IntKind} {a b:Int}:bP (.bin .rem) [.pv (.int k a),.pv (.int k b)]=if b=0 then none else some (.pv (.int k (a.tmod b))):=by simp [bP,dv]
theorem Kq {k:IntKind} {a b:Int}:bP (.bin .eql) [.pv (.int k a),.pv (.int k b)]=some (.pv (.bool (a == b))):=by simp [bP,dv]
theorem Kr {k:IntKind} {a b:Int}:bP (.bin .neq) [.pv (.int k a),.pv (.int k b)]=some (.pv (.bool (a != b))):=by simp [bP,dv]
theorem Ks {k:IntKind} {a b:Int}:bP (.bin .lss) [.pv (.int k a),.pv (.int k b)]=some (.pv (.bool (decide (a<b)))):=by simp [bP,dv]
theorem Kt {k:IntKind} {a b:Int}:bP (.bin .leq) [.pv (.int k a),.pv (.int k b)]=some (.pv (.bool (decide (a≤b)))):=by simp [bP,dv]
theorem Ku {k:IntKind} {a b:Int}:bP (.bin .gtr) [.pv (.int k a),.pv (.int k b)]=some (.pv (.bool (decide (a > b)))):=by simp [bP,dv]
theorem Kv {k:IntKind} {a b:Int}:bP (.bin .geq) [.pv (.int k a),.pv (.int k b)]=some (.pv (.bool (decide (a≥b)))):=by simp [bP,dv]
theorem Kx {k:IntKind} {a b:Int}:bP (.bin .and) [.pv (.int k a),.pv (.int k b)]=some (.pv (.int k (k.wrap (BitVec.ofInt k.bits a &&& BitVec.ofInt k.bits b).toNat))):=by simp [bP,dv]
theorem Ky {k k':IntKind} {a b:Int}:bP (.bin .shr) [.pv (.int k a),.pv (.int k' b)]=if b<0 then none else some (.pv (.int k (a.fdiv (2 ^ (min b.toNat k.bits))))):=by simp [bP,dv]
theorem Kz {a b:List UInt8}:bP (.bin .add) [.pv (.str a),.pv (.str b)]=if a.length+b.length≤9223372036854775807 then some (.pv (.str (a++b))) else none:=rfl
theorem HG {a b:List UInt8}:bP (.bin .eql) [.pv (.str a),.pv (.str b)]=some (.pv (.bool (a == b))):=rfl
theorem HH {a b:List UInt8}:bP (.bin .neq) [.pv (.str a),.pv (.str b)]=some (.pv (.bool (!(a == b)))):=rfl
theorem HI {a b:List UInt8}:bP (.bin .lss) [.pv (.str a),.pv (.str b)]=some (.pv (.bool (dv.gf a b))):=rfl
theorem HJ {a b:List UInt8}:bP (.bin .gtr) [.pv (.str a),.pv (.str b)]=some (.pv (.bool (!(dv.gf a b || a == b)))):=rfl
theorem EZ {sz:Nat} {lo hi mx:Bool} {x:AV} {rest:List AV}:bP (.slice false sz lo hi mx) (x::rest)=cP false sz lo hi mx (x::rest):=rfl
theorem Be {sz:Nat} {lo hi mx:Bool} {x:AV} {rest:List AV}:bP (.slice true sz lo hi mx) (x::rest)=cP true sz lo hi mx (x::rest):=rfl
def mq (bg ks:Bool) (sh0 sh:Sh) (ah:aM):Option (List AV)→Option (List AV×Sh×aM)
 | some vs=>if (cL bg ks sh vs).all ca=true then
     some ((dh ah (cL bg ks sh vs) (if (cL bg ks sh vs).all (aS sh0.length)=true then (eJ bg ks sh vs).take sh0.length else eJ bg ks sh vs)).1,
       (dh ah (cL bg ks sh vs) (if (cL bg ks sh vs).all (aS sh0.length)=true then (eJ bg ks sh vs).take sh0.length else eJ bg ks sh vs)).2.1,
       (dh ah (cL bg ks sh vs) (if (cL bg ks sh vs).all (aS sh0.length)=true then (eJ bg ks sh vs).take sh0.length else eJ bg ks sh vs)).2.2.2) else none
 | none=>none
theorem xx {bg ks:Bool} {sh0:Sh} {vs:List AV}:mq bg ks sh0 sh ah (some vs)=if (cL bg ks sh vs).all ca=true then
     some ((dh ah (cL bg ks sh vs) (if (cL bg ks sh vs).all (aS sh0.length)=true then (eJ bg ks sh vs).take sh0.length else eJ bg ks sh vs)).1,
       (dh ah (cL bg ks sh vs) (if (cL bg ks sh vs).all (aS sh0.length)=true then (eJ bg ks sh vs).take sh0.length else eJ bg ks sh vs)).2.1,
       (dh ah (cL bg ks sh vs) (if (cL bg ks sh vs).all (aS sh0.length)=true then (eJ bg ks sh vs).take sh0.length else eJ bg ks sh vs)).2.2.2) else none:=rfl
def fin (bg ks:Bool) (rs:List qf) (sh0:Sh):Option (bf×St)→Option (List AV×Sh×aM)
 | some (.ret,st)=>mq bg ks sh0 st.sh st.ah (eg st rs)
 | some (.normal,st)=>mq bg ks sh0 st.sh st.ah (eg st rs)
 | _=>none
theorem KA {bg ks:Bool} {rs:List qf} {sh0:Sh} {st:St}:fin bg ks rs sh0 (some (.ret,st))=mq bg ks sh0 st.sh st.ah (eg st rs):=rfl
theorem Bf {bg ks:Bool} {rs:List qf} {sh0:Sh} {st:St}:fin bg ks rs sh0 (some (.normal,st))=mq bg ks sh0 st.sh st.ah (eg st rs):=rfl
theorem KB {bg ks:Bool} {rs:List qf} {sh0:Sh} {c:Prop} [Decidable c] {x y:Option (bf×St)}:fin bg ks rs sh0 (if c then x else y)=if c then fin bg ks rs sh0 x else fin bg ks rs sh0 y:=by split<;>rfl
theorem s7 {bg:Bool} {af:aJ} {sh0:Sh} {r:Option (bf×St)}:finish bg af sh0 r=fin bg af.ks af.results sh0 r:=by
 cases r with
 | none=>rfl
 | some q=>
   obtain ⟨e,st⟩:=q
   cases e with
   | ret=>simp only [finish,fin];cases eg st af.results<;>simp [mq]
   | normal=>simp only [finish,fin];cases eg st af.results<;>simp [mq]
   | exit id=>simp [finish,fin]
theorem Bg {st:St}:eg st []=some []:=rfl
theorem xy {st:St} {r:qf} {rs:List qf}:eg st (r::rs)=ni (oK st r) (eg st rs):=by
 simp only [eg]
 cases oK st r<;>cases eg st rs<;>rfl
theorem KD {st:St} {n:Nat}:oK st (.t n)=look st.env n:=rfl
def lB (key sz:Nat) (ag:Bool) (mem:List (Nat×List AV)) (sh:Sh):Option AV→Option AV
 | some (.az d 0)=>uG key d sz ag (look mem key)
 | some (.a_ s 0)=>qP ag sz 0 sh[s]?
 | _=>none
where uG (key d sz:Nat) (ag:Bool):Option (List AV)→Option AV
 | some cs=>if d=key then cf ag sz cs 0 else none
 | none=>none
theorem KE {st:St} {key sz:Nat} {ag:Bool}:oK st (.c key sz ag)=lB key sz ag st.mem st.sh (look st.env key):=by
 simp only [oK]
 unfold lB
 split
 · rename_i h;rw [h];rfl
 · rename_i h;rw [h];rfl
 · rename_i h1 h2
   split
   · rename_i d e;exact absurd e (h1 d)
   · rename_i s e;exact absurd e (h2 s)
   · rfl
theorem uH {key sz d:Nat} {ag:Bool} {mem:List (Nat×List AV)}:lB key sz ag mem sh (some (.az d 0))=lB.uG key d sz ag (look mem key):=rfl
theorem uI {key sz d:Nat} {ag:Bool} {cs:List AV}:lB.uG key d sz ag (some cs)=if d=key then cf ag sz cs 0 else none:=rfl
theorem xz {key sz s:Nat} {ag:Bool} {mem:List (Nat×List AV)}:lB key sz ag mem sh (some (.a_ s 0))=qP ag sz 0 sh[s]?:=rfl
theorem uJ {vs:List AV} {ks:Bool}:cL false ks sh vs=vs.map (qj sh):=rfl
theorem xA {vs:List AV}:cL true false sh vs=vs.map (nP sh):=rfl
theorem E_ {vs:List AV}:cL true true sh vs=vs:=rfl
theorem xB {vs:List AV} {ks:Bool}:eJ false ks sh vs=ep sh vs:=rfl
theorem Bh {vs:List AV}:eJ true false sh vs=ep sh vs:=rfl
theorem HK {vs:List AV}:eJ true true sh vs=sh:=rfl
def HL (v:AV):Option PV→AV
 | some p=>.pv p
 | none=>v
theorem Fa {v:AV} {p:PV}:HL v (some p)=.pv p:=rfl
theorem Fb {v:AV}:HL v none=v:=rfl
theorem HM {v:AV}:qj sh v=HL v (c_ sh v):=rfl
theorem HN {l:List PV}:nP sh (.bD l)=.bD l:=rfl
theorem HO {l:List PV} {τ:Nat}:nP sh (.own l τ)=.own l τ:=rfl
theorem HP {cs:List AV}:nP sh (.agg cs)=.agg (cs.map (l5 sh)):=rfl
theorem KF {p:PV}:nP sh (.pv p)=.pv p:=rfl
theorem Fe {a b:Nat}:nP sh (.a_ a b)=.a_ a b:=rfl
theorem KH {a:Nat} {b:List AV}:nP sh (.fn a b)=.fn a b:=rfl
theorem Ff:nP sh .dw=.dw:=rfl
theorem Fg {s:Nat}:nP sh (.cv s)=(.cv s):=rfl
theorem Fh {a b c:Nat} {d:Bool}:nP sh (.bu a b c d)=HL (.bu a b c d) (c_ sh (.bu a b c d)):=rfl
theorem HQ {l:List PV}:l5 sh (.bD l)=.bD l:=rfl
theorem HR {l:List PV} {τ:Nat}:l5 sh (.own l τ)=.pv (.aD l):=rfl
theorem Fi {b:Bool}:l5 sh (.pv (.bool b))=.pv (.bool b):=rfl
theorem HT {k:IntKind} {n:Int}:l5 sh (.pv (.int k n))=.pv (.int k n):=rfl
theorem HU {s:List UInt8}:l5 sh (.pv (.str s))=.pv (.str s):=rfl
theorem HV {l:List PV}:l5 sh (.pv (.aD l))=.pv (.aD l):=rfl
theorem Fj {a b:Nat}:l5 sh (.a_ a b)=.a_ a b:=rfl
theorem Fk:l5 sh .dw=.dw:=rfl
theorem Fl {s:Nat}:l5 sh (.cv s)=(.cv s):=rfl
theorem Fm {a b c:Nat} {d:Bool}:l5 sh (.bu a b c d)=HL (.bu a b c d) (c_ sh (.bu a b c d)):=rfl
theorem Bi {vs:List AV}:ep sh vs=kill sh (vs.flatMap fo):=rfl
theorem HW:kill sh []=sh:=rfl
theorem Fo {b:Nat} {l:List Nat}:kill sh (b::l)=kill (sh.set b none) l:=rfl
theorem Fp {a b c:Nat} {d:Bool}:fo (.bu a b c d)=[a]:=rfl
theorem KI {p:PV}:fo (.pv p)=[]:=rfl
theorem HX {l:List PV} {τ:Nat}:fo (.own l τ)=[]:=rfl
theorem HY {l:List PV}:fo (.bD l)=[]:=rfl
theorem Fq {a b:Nat}:fo (.a_ a b)=[]:=rfl
theorem KJ {a:Nat} {b:List AV}:fo (.fn a b)=[]:=rfl
theorem Fs:fo .dw=[]:=rfl
theorem Ft {s:Nat}:fo (.cv s)=[]:=rfl
def lQ:AV→List Nat
 | .bu b _ _ _=>[b]
 | _=>[]
theorem HZ {cs:List AV}:fo (.agg cs)=cs.flatMap lQ:=by
 show cs.flatMap _=cs.flatMap lQ
 congr 1
theorem Bj {a b c:Nat} {d:Bool}:lQ (.bu a b c d)=[a]:=rfl
theorem H0 {p:PV}:lQ (.pv p)=[]:=rfl
theorem Fu {l:List PV} {τ:Nat}:lQ (.own l τ)=[]:=rfl
theorem Fv {l:List PV}:lQ (.bD l)=[]:=rfl
theorem Bk {a b:Nat}:lQ (.a_ a b)=[]:=rfl
theorem H3 {a:Nat} {b:List AV}:lQ (.fn a b)=[]:=rfl
theorem Bl:lQ .dw=[]:=rfl
theorem Bm {s:Nat}:lQ (.cv s)=[]:=rfl
theorem Bn:fq []=some []:=rfl
theorem xC {p:PV} {r:List AV}:fq (.pv p::r)=ni (some p) (fq r):=by
 simp only [fq]
 cases fq r<;>rfl
def lC:Option (List AV×Sh×aM)→Option (List PV)
 | some (rs,_,_)=>fq rs
 | none=>none
theorem uK {rs:List AV} {t:aM}:lC (some (rs,sh,t))=fq rs:=rfl
theorem xD {c:Prop} [Decidable c] {x y:Option (List AV×Sh×aM)}:lC (if c then x else y)=if c then lC x else lC y:=by split<;>rfl
theorem au {g:Nat} {af:aJ} {x:List PV} (hg:AP g=some af) (h1:x.length=af.nparams) (h2:af.nparams≤af.ntmps) (hp:af.qg=none:=by rfl) :
   (aN AP).p g x=lC (fin false af.ks af.results [] (cl AP af.body ⟨cD 0 (x.map .pv),[],[],[]⟩)):=by
 rw [LK hg hp h1 (by omega)]
 unfold lP lC
 rw [s7]
 cases fin false af.ks af.results [] (cl AP af.body ⟨cD 0 (x.map .pv),[],[],[]⟩)<;>rfl
theorem aR {g:Nat} {af:aJ} {x:List AV} {ts:aM} (hg:AP g=some af) (h2:x.length≤af.ntmps) :
   (aN AP).i g x sh ts=fin true af.ks af.results sh (cl AP af.body ⟨cD 0 x,[],sh,ts⟩):=by
 rw [LL hg h2,←s7]
 rfl
end
attribute [simp] C7 wt C8 wu yU ua C9 yV C_ uc C' yW Da Db yX ud wv yY Gk JY Ol JZ Gl Gm Df Dg wy yZ y1 Dh MY gP gZ iM kB wz pg wA nh i_ lh ja jK Du Gu jb sj Dv Dw GB DH DI za wD DJ mo zb wE DK GD GF zc iR ze wG GH DM DN zg GI zh zi DO wH zk zm wI J8 J9 GJ oi zn wJ DP zo J_ GK GL M8 J' Ka DQ Kb zp wK wL ui zq uj GM M9 GN um GP DR GQ GR GS GU GV GW GX DS qR DT qS qT DU zs DV zt DW DX GY wM DY D1 zB zD zE zF G7 zG Kd wQ zJ zK pM oj zL zM pN om zN D2 G_ Ha D3 D4 D9 zV zW zX Hf zY look_nil D_ Hg D' Ea Eb Ec fc z4 uq sk z5 wS wT z6 z7 z8 z9 z_ wU wV Ed wW Aa wY Ac Ad Ae Af Ee Ef Eg Eh Ei Ag Ah Hh Ai Hi Hj Ej Al Am Ao Hk Ek Em Aq Eo Hl Ep Au Av Aw Hm Er Ew AE Hp Ey Ez AF AG Hq AH Hr AJ EA EB AL AM w0 w6 w7 EC AN w8 ur AO s6 AQ AR xe EF xg xh AU pk pn sr uw ux uy xm xn AW uz uA AX uB xp AY qU Oo EG AZ EH Ke EI A0 Hs A1 EJ A2 EK A3 EM ER bind_none bind_some A4 xt xu uE aP M_ Hu Kf ES A5 A6 A7 A8 xv ET A9 A_ A' Ba EU EV EW Bb EX Bc EY Kg Hv Hw Hx Hy Hz HA HB HC Na Nb HD HE Kh Ki Kj Kk Kl Km Ko Kq Kr Ks Kt Ku Kv Kx Ky Kz HG HH HI HJ EZ Be xx KA Bf KB Bg xy KD KE uH uI xz uJ xA Fa Fb HM HN HO HP KF Fe KH Ff Fh HQ HR Fi HT HU HV Fj Fk Fm Bi HW Fo Fp KI HX HY Fq KJ Fs HZ Bj H0 Fu Fv Bk H3 Bl Bn xC uK xD zj uk GO zH zI zZ wX Aj Ak Ap Ax AI w4 w5 xj xl uD Fg Fl Ft Bm Gp J0 Gq Gr Di Dj J3 Dk Dl Dm jL iN lj l_ Dn ug sf qQ Dp sY EN EO Ht EP Dq sZ J4 DL pj zd wO uo zw wP DZ GZ D0 zx zy G6 zz zA zP wR D5 Hb D6 zQ zR Hc D7 zT He zU Ay wZ Es Hn Et Az AA AB AD Ho Eu uv sq AS ED AT w9 EE w_ xa xd E_ xB Bh HK EL Dy Gv y2 jM wB Gx Gy Dz J5 GA DB DC DD DE DF DA y4 y5 y6 MU xq DG wC y7 y8 y9 y_ MX JT JU MV Gi List.getElem?_cons_zero
theorem aq {n:Int} (h1:-9223372036854775808≤n) (h2:n≤9223372036854775807):IntKind.i64.wrap n=n:=by
 simp [IntKind.wrap,IntKind.bits,IntKind.signed]
 omega
end Go.Ab.Ev
