import Derived.Test.YtfhhognolpjikaaGreatAbRegion
/-
  A region that draws its order: whatever order is picked, the end is that of the text's order.
-/
set_option linter.unusedVariables false
set_option linter.unusedSimpArgs false
set_option maxRecDepth 100000
set_option maxHeartbeats 8000000
namespace Go.Ab
section
variable {orc:eM}
def JR (E:Nat→Option AV):eL→Option AV
 | .t n=>E n
 | .c v=>some v
def kH (E:Nat→Option AV):List eL→Option (List AV)
 | []=>some []
 | x::r=>match JR E x,kH E r with
   | some v,some vs=>some (v::vs)
   | _,_=>none
def lr (E:Nat→Option AV):Option (Nat×Bool)→Option Bool
 | none=>some true
 | some (t,b)=>match E t with
   | some (.pv (.bool c))=>some (c == b)
   | some .un=>some false
   | _=>none
def dT (orc:eM) (o:d4) (E:Nat→Option AV) (M:Nat→Option (List AV)) (sh:Sh) (ah:aM):Option Out:=
 match lr E o.guard with
 | none=>none
 | some false=>some ⟨.un,none,sh,ah⟩
 | some true=>match kH E o.args with
   | none=>none
   | some vals=>exec orc o.op vals (o.op.key.bind M) sh ah
theorem qE (env:List (Nat×AV)):∀l,d5 env l=kH (look env) l
 | []=>rfl
 | x::l=>by
   have:gJ env x=JR (look env) x:=by cases x<;>rfl
   simp only [d5,kH,this,qE env l]
   rfl
theorem js (o:d4) (st:St):eB orc o st=(dT orc o (look st.env) (look st.mem) st.sh st.ah).map
   fun r=>{ env:=gg st.env o.dst r.val,mem:=fp st.mem o.op.key r.cells,sh:=r.sh,ah:=r.ah }:=by
 unfold eB dT
 have hw:eY st.env o.guard=lr (look st.env) o.guard:=by
   cases o.guard with
   | none=>rfl
   | some g=>rfl
 rw [hw]
 cases lr (look st.env) o.guard with
 | none=>rfl
 | some b=>cases b with
   | false=>simp [fc]
   | true=>
     simp only [qE]
     cases kH (look st.env) o.args with
     | none=>rfl
     | some vals=>
       simp only
       cases exec orc o.op vals (o.op.key.bind (look st.mem)) st.sh st.ah<;>rfl
theorem kI {E E':Nat→Option AV}:∀{l:List eL},(∀t∈l.filterMap (fun | .t n=>some n | _=>none),E t=E' t)→kH E l=kH E' l
 | [],_=>rfl
 | .c v::l,h=>by
   simp only [kH,JR]
   rw [kI (l:=l) (fun t ht=>h t (by simpa using ht))]
 | .t n::l,h=>by
   simp only [kH,JR]
   rw [kI (l:=l) (fun t ht=>h t (by simp only [List.filterMap_cons,List.mem_cons];exact .inr ht)),h n (by simp)]
theorem jT {o:d4} {E E':Nat→Option AV} {M M':Nat→Option (List AV)} {sh:Sh} {ah:aM} (hE:∀t∈o.looks,E t=E' t) (hM:∀k,o.op.key=some k→M k=M' k) :
   dT orc o E M sh ah=dT orc o E' M' sh ah:=by
 have h1:lr E o.guard=lr E' o.guard:=by
   cases hg:o.guard with
   | none=>rfl
   | some g=>
     obtain ⟨t,b⟩:=g
     simp only [lr]
     rw [hE t (by simp [d4.looks,hg])]
 have h2:kH E o.args=kH E' o.args:=kI fun t ht=>hE t (by simp only [d4.looks,List.mem_append];exact .inl ht)
 have h3:o.op.key.bind M=o.op.key.bind M':=by
   cases hk:o.op.key with
   | none=>rfl
   | some k=>exact hM k hk
 unfold dT
 rw [h1,h2,h3]
theorem MP {op:AK} {vals:List AV} {cells:Option (List AV)} {sh:Sh} {ah:aM} {r:Out} (ht:op.iF=false) (h:exec orc op vals cells sh ah=some r) :
   r.sh=sh∧∀sh',exec orc op vals cells sh' ah=some { r with sh:=sh' }:=by
 cases op with
 | v vo=>
   simp only [exec,Option.map_eq_some_iff] at h ⊢
   obtain ⟨x,h1,rfl⟩:=h
   exact ⟨rfl,fun sh'=>⟨x,h1,rfl⟩⟩
 | bl k o s ag=>
   obtain ⟨cs,x,rfl,rfl,hx,rfl⟩:=gP h
   exact ⟨rfl,fun sh'=>by simp [exec,hx]⟩
 | dc k o s=>
   obtain ⟨cs,v,rfl,rfl,h1,h2,h3,rfl⟩:=gZ h
   exact ⟨rfl,fun sh'=>by simp [exec,h1,h2,h3]⟩
 | alloc k z=>
   obtain ⟨rfl,rfl,rfl⟩:=iM h
   exact ⟨rfl,fun sh'=>by simp [exec]⟩
 | box k s=>
   obtain ⟨v,rfl,rfl,h1,h2,rfl⟩:=kB h
   exact ⟨rfl,fun sh'=>by simp only [exec];rw [if_pos ⟨h1,h2⟩]⟩
 | append s b=>
   obtain ⟨s,x,y,ts,rfl,h1,rfl⟩:=jb h
   exact ⟨rfl,fun sh'=>by simp [exec,h1]⟩
 | cZ s b ag=>simp [AK.iF] at ht
 | ib s z=>simp [AK.iF] at ht
 | clone s b=>
   obtain ⟨x,y,ts,rfl,h1,rfl⟩:=l_ h
   exact ⟨rfl,fun sh'=>by simp [exec,h1]⟩
 | aA g=>
   simp only [exec] at h ⊢
   split at h
   · rename_i dE hp
     simp only [Option.map_eq_some_iff] at h
     obtain ⟨rs,h1,rfl⟩:=h
     exact ⟨rfl,fun sh'=>by simp [h1]⟩
   · simp at h
 | jn g=>
   simp only [exec] at h ⊢
   split at h
   · rename_i dE hp
     split at h
     · rename_i rs ts1 h1
       cases h
       exact ⟨rfl,fun sh'=>by simp [h1]⟩
     · simp at h
   · simp at h
 | _=>simp [AK.iF] at ht
theorem MQ {op:AK} {vals:List AV} {cells:Option (List AV)} {sh:Sh} {ah:aM} {r:Out} (ht:op.gm=false) (h:exec orc op vals cells sh ah=some r) :
   r.ah=ah∧∀ts,exec orc op vals cells sh ts=some { r with ah:=ts }:=by
 cases op with
 | v vo=>
   simp only [exec,Option.map_eq_some_iff] at h ⊢
   obtain ⟨x,h1,rfl⟩:=h
   exact ⟨rfl,fun ts=>⟨x,h1,rfl⟩⟩
 | bl k o s ag=>
   obtain ⟨cs,x,rfl,rfl,hx,rfl⟩:=gP h
   exact ⟨rfl,fun ts=>by simp [exec,hx]⟩
 | dc k o s=>
   obtain ⟨cs,v,rfl,rfl,h1,h2,h3,rfl⟩:=gZ h
   exact ⟨rfl,fun ts=>by simp [exec,h1,h2,h3]⟩
 | alloc k z=>
   obtain ⟨rfl,rfl,rfl⟩:=iM h
   exact ⟨rfl,fun ts=>by simp [exec]⟩
 | box k s=>
   obtain ⟨v,rfl,rfl,h1,h2,rfl⟩:=kB h
   exact ⟨rfl,fun ts=>by simp only [exec];rw [if_pos ⟨h1,h2⟩]⟩
 | append s b=>simp [AK.gm] at ht
 | cZ s b ag=>simp [AK.gm] at ht
 | clone s b=>simp [AK.gm] at ht
 | ib s z=>
   obtain ⟨x,sh',rfl,h1,rfl⟩:=o5 h
   exact ⟨rfl,fun ts=>by simp [exec,h1]⟩
 | ko=>
   obtain ⟨rfl,rfl⟩:=jL h
   exact ⟨rfl,fun ts=>by simp [exec]⟩
 | iB c ok z=>
   obtain ⟨s,k,kvs,r,rfl,h1,h2,rfl⟩:=iN h
   exact ⟨rfl,fun ts=>by simp [exec,h1,h2]⟩
 | mM c=>
   obtain ⟨s,k,v,kvs,p,kvs',rfl,h1,h2,h3,rfl⟩:=lj h
   exact ⟨rfl,fun ts=>by simp [exec,h1,h2,h3]⟩
 | aA g=>
   simp only [exec] at h ⊢
   split at h
   · rename_i dE hp
     simp only [Option.map_eq_some_iff] at h
     obtain ⟨rs,h1,rfl⟩:=h
     exact ⟨rfl,fun ts=>by simp [h1]⟩
   · simp at h
 | dG g=>
   simp only [exec] at h ⊢
   split at h
   · rename_i dE hp
     simp only [Option.map_eq_some_iff] at h
     obtain ⟨rs,h1,rfl⟩:=h
     exact ⟨rfl,fun ts=>by simp [h1]⟩
   · simp at h
 | aL g own=>simp [AK.gm] at ht
 | jn g=>simp [AK.gm] at ht
 | ff=>simp [AK.gm] at ht
 | a6 s ag=>
   obtain ⟨p,x,rfl,rfl,hor⟩:=l9 h
   refine ⟨rfl,fun ts=>?_⟩
   rcases hor with ⟨cs,rfl,hx⟩ | ⟨b,off,cs,rfl,hcs,hm,hx⟩
   · simp [exec,hx]
   · simp [exec,hcs,hm,hx]
 | cz s=>
   obtain ⟨b,off,v,cs,rfl,hcs,h0,h1,h2,h3,h4,rfl⟩:=i_ h
   refine ⟨rfl,fun ts=>?_⟩
   simp only [exec,hcs]
   rw [if_pos ⟨h0,h1,h2,h3,h4⟩]
 | l4 s=>
   obtain ⟨v,rfl,h1,h2,h3,rfl⟩:=lh h
   refine ⟨rfl,fun ts=>?_⟩
   simp only [exec]
   rw [if_pos ⟨h1,h2,h3⟩]
 | ia z=>
   obtain ⟨rfl,rfl⟩:=ja h
   exact ⟨rfl,fun ts=>by simp [exec]⟩
 | jm s b ag z=>
   obtain ⟨k,k',n,rfl,h1,h2,h3,h4,rfl⟩:=jK h
   exact ⟨rfl,fun ts=>by simp [exec,h1,h2,h3,h4]⟩
theorem MR {op:AK} {vals:List AV} {cells:Option (List AV)} {sh:Sh} {ah:aM} {r:Out} (ht:op.iq=false) (hk:op.key≠none) (h:exec orc op vals cells sh ah=some r):r.cells=none:=by
 cases op with
 | bl k o s ag=>
   obtain ⟨cs,x,rfl,rfl,hx,rfl⟩:=gP h
   rfl
 | dc k o s=>simp [AK.iq] at ht
 | alloc k z=>simp [AK.iq] at ht
 | box k s=>simp [AK.iq] at ht
 | _=>simp [AK.key] at hk
theorem r_ {sz:Nat} {ag:Bool} {vals:List AV} {cells:Option (List AV)} {sh:Sh} {ah:aM} {r:Out} (h:exec orc (.a6 sz ag) vals cells sh ah=some r):r.sh=sh:=by
 obtain ⟨p,x,rfl,rfl,_⟩:=l9 h
 rfl
theorem sa {c:CK} {ok:Bool} {z:PV} {vals:List AV} {cells:Option (List AV)} {sh:Sh} {ah:aM} {r:Out} (h:exec orc (.iB c ok z) vals cells sh ah=some r):r.sh=sh:=by
 obtain ⟨s,k,kvs,r,rfl,_,_,rfl⟩:=iN h
 rfl
theorem qF {o:d4} {E:Nat→Option AV} {M:Nat→Option (List AV)} {sh:Sh} {ah:aM} {r:Out} (ht:o.op.iF=false) (h:dT orc o E M sh ah=some r) :
   r.sh=sh∧∀sh',dT orc o E M sh' ah=some { r with sh:=sh' }:=by
 unfold dT at *
 split at h
 · simp at h
 · simp at h;subst h;exact ⟨rfl,fun _=>rfl⟩
 · split at h
   · simp at h
   · exact MP ht h
theorem wi {o:d4} {E:Nat→Option AV} {M:Nat→Option (List AV)} {sh:Sh} {ah:aM} {r:Out} (ht:o.op.sE=true) (h:dT orc o E M sh ah=some r):r.sh=sh:=by
 unfold dT at *
 split at h
 · simp at h
 · simp at h;subst h;rfl
 · split at h
   · simp at h
   · rename_i vals _
     cases ho:o.op with
     | a6 sz ag=>
       rw [ho] at h
       have hl:=r_ h
       exact hl
     | iB c ok z=>
       rw [ho] at h
       exact sa h
     | _=>rw [ho] at ht;simp [AK.sE] at ht
theorem na {o:d4} {E:Nat→Option AV} {M:Nat→Option (List AV)} {sh:Sh} {ah:aM} {r:Out} (ht:o.op.gm=false) (h:dT orc o E M sh ah=some r) :
   r.ah=ah∧∀ts,dT orc o E M sh ts=some { r with ah:=ts }:=by
 unfold dT at *
 split at h
 · simp at h
 · simp at h;subst h;exact ⟨rfl,fun _=>rfl⟩
 · split at h
   · simp at h
   · exact MQ ht h
theorem nc {o:d4} {E:Nat→Option AV} {M:Nat→Option (List AV)} {sh:Sh} {ah:aM} {r:Out} (ht:o.op.iq=false) (hk:o.op.key≠none) (h:dT orc o E M sh ah=some r):r.cells=none:=by
 unfold dT at h
 split at h
 · simp at h
 · simp at h;subst h;rfl
 · split at h
   · simp at h
   · exact MR ht hk h
structure jt (x y:St):Prop where
 env:∀t,look x.env t=look y.env t
 mem:∀t,look x.mem t=look y.mem t
 sh:x.sh=y.sh
 ah:x.ah=y.ah
theorem jt.refl (x:St):jt x x:=⟨fun _=>rfl,fun _=>rfl,rfl,rfl⟩
theorem jt.symm {x y:St} (h:jt x y):jt y x:=⟨fun t=>(h.env t).symm,fun t=>(h.mem t).symm,h.sh.symm,h.ah.symm⟩
theorem jt.trans {x y z:St} (h:jt x y) (k:jt y z):jt x z:=⟨fun t=>(h.env t).trans (k.env t),fun t=>(h.mem t).trans (k.mem t),h.sh.trans k.sh,h.ah.trans k.ah⟩
theorem lu (env:List (Nat×AV)) (d:Option Nat) (v:AV) (t:Nat):look (gg env d v) t=if d=some t then some v else look env t:=by
 cases d with
 | none=>simp [gg]
 | some d=>
   simp only [gg,Option.some.injEq]
   by_cases h:d=t
   · subst h;rw [if_pos rfl,ct]
   · rw [if_neg h,cd _ _ _ _ h]
theorem lx (mem:List (Nat×List AV)) (k:Option Nat) (c:Option (List AV)) (t:Nat):look (fp mem k c) t=if k=some t then (match c with | some cs=>some cs | none=>look mem t) else look mem t:=by
 cases c with
 | none=>rw [fc];split<;>rfl
 | some cs=>
   cases k with
   | none=>simp [fp]
   | some k=>
     simp only [fp,Option.some.injEq]
     by_cases h:k=t
     · subst h;rw [if_pos rfl,ct]
     · rw [if_neg h,cd _ _ _ _ h]
theorem C3 {o:d4} {x y x':St} (h:jt x y) (he:eB orc o x=some x'):∃y',eB orc o y=some y'∧jt x' y':=by
 rw [js,Option.map_eq_some_iff] at he
 obtain ⟨r,hr,rfl⟩:=he
 have:dT orc o (look y.env) (look y.mem) y.sh y.ah=some r:=by
   rw [←h.sh,←h.ah,←hr]
   exact (jT (fun t _=>h.env t) (fun t _=>h.mem t)).symm
 refine ⟨{ env:=gg y.env o.dst r.val,mem:=fp y.mem o.op.key r.cells,sh:=r.sh,ah:=r.ah },by rw [js,this];rfl,⟨fun t=>?_,fun t=>?_,rfl,rfl⟩⟩
 · simp only [lu,h.env]
 · simp only [lx,h.mem]
end
end Go.Ab
