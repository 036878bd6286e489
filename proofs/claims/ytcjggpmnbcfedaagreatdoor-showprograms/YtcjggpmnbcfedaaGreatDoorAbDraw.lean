import Derived.Test.YtcjggpmnbcfedaaGreatDoorAbRegion
/-
  A region that draws its order: whatever order is picked, the end is that of the text's order.
-/
set_option linter.unusedVariables false
set_option linter.unusedSimpArgs false
set_option linter.unnecessarySimpa false
set_option maxRecDepth 100000
set_option maxHeartbeats 8000000
namespace Go.Ab
section
variable {orc:eu}
def Jm (E:Nat→Option AV):fF→Option AV
 | .t n=>E n
 | .c v=>some v
def kB (E:Nat→Option AV):List fF→Option (List AV)
 | []=>some []
 | x::r=>match Jm E x,kB E r with
   | some v,some vs=>some (v::vs)
   | _,_=>none
def mO (E:Nat→Option AV):Option (Nat×Bool)→Option Bool
 | none=>some true
 | some (t,b)=>match E t with
   | some (.pv (.bool c))=>some (c == b)
   | some .un=>some false
   | _=>none
def dD (orc:eu) (o:dK) (E:Nat→Option AV) (M:Nat→Option (List AV)) (sh:Sh) (ae:aH):Option Out:=
 match mO E o.guard with
 | none=>none
 | some false=>some ⟨.un,none,sh,ae⟩
 | some true=>match kB E o.args with
   | none=>none
   | some vals=>exec orc o.op vals (o.op.key.bind M) sh ae
theorem sB (env:List (Nat×AV)):∀l,ew env l=kB (look env) l
 | []=>rfl
 | x::l=>by
   have:ir env x=Jm (look env) x:=by cases x<;>rfl
   simp only [ew,kB,this,sB env l]
   rfl
theorem eJ (o:dK) (st:St):eo orc o st=(dD orc o (look st.env) (look st.mem) st.sh st.ae).map
   fun r=>{ env:=gp st.env o.dst r.val,mem:=eX st.mem o.op.key r.cells,sh:=r.sh,ae:=r.ae }:=by
 unfold eo dD
 have hw:f_ st.env o.guard=mO (look st.env) o.guard:=by
   cases o.guard with
   | none=>rfl
   | some g=>rfl
 rw [hw]
 cases mO (look st.env) o.guard with
 | none=>rfl
 | some b=>cases b with
   | false=>simp [e8]
   | true=>
     simp only [sB]
     cases kB (look st.env) o.args with
     | none=>rfl
     | some vals=>
       simp only
       cases exec orc o.op vals (o.op.key.bind (look st.mem)) st.sh st.ae<;>rfl
theorem mc {E E':Nat→Option AV}:∀{l:List fF},(∀t∈l.filterMap (fun | .t n=>some n | _=>none),E t=E' t)→kB E l=kB E' l
 | [],_=>rfl
 | .c v::l,h=>by
   simp only [kB,Jm]
   rw [mc (l:=l) (fun t ht=>h t (by simpa using ht))]
 | .t n::l,h=>by
   simp only [kB,Jm]
   rw [mc (l:=l) (fun t ht=>h t (by simp only [List.filterMap_cons,List.mem_cons];exact .inr ht)),h n (by simp)]
theorem h_ {o:dK} {E E':Nat→Option AV} {M M':Nat→Option (List AV)} {sh:Sh} {ae:aH} (hE:∀t∈o.looks,E t=E' t) (hM:∀k,o.op.key=some k→M k=M' k) :
   dD orc o E M sh ae=dD orc o E' M' sh ae:=by
 have h1:mO E o.guard=mO E' o.guard:=by
   cases hg:o.guard with
   | none=>rfl
   | some g=>
     obtain ⟨t,b⟩:=g
     simp only [mO]
     rw [hE t (by simp [dK.looks,hg])]
 have h2:kB E o.args=kB E' o.args:=mc fun t ht=>hE t (by simp only [dK.looks,List.mem_append];exact .inl ht)
 have h3:o.op.key.bind M=o.op.key.bind M':=by
   cases hk:o.op.key with
   | none=>rfl
   | some k=>exact hM k hk
 unfold dD
 rw [h1,h2,h3]
theorem PK {op:AK} {vals:List AV} {cells:Option (List AV)} {sh:Sh} {ae:aH} {r:Out} (ht:op.iS=false) (h:exec orc op vals cells sh ae=some r) :
   r.sh=sh∧∀sh',exec orc op vals cells sh' ae=some { r with sh:=sh' }:=by
 cases op with
 | v vo=>
   simp only [exec,Option.map_eq_some_iff] at h ⊢
   obtain ⟨x,h1,rfl⟩:=h
   exact ⟨rfl,fun sh'=>⟨x,h1,rfl⟩⟩
 | bh k o s ag=>
   obtain ⟨cs,x,rfl,rfl,hx,rfl⟩:=iB h
   exact ⟨rfl,fun sh'=>by simp [exec,hx]⟩
 | cY k o s=>
   obtain ⟨cs,v,rfl,rfl,h1,h2,h3,rfl⟩:=iL h
   exact ⟨rfl,fun sh'=>by simp [exec,h1,h2,h3]⟩
 | alloc k z=>
   obtain ⟨rfl,rfl,rfl⟩:=jt h
   exact ⟨rfl,fun sh'=>by simp [exec]⟩
 | box k s=>
   obtain ⟨v,rfl,rfl,h1,h2,rfl⟩:=l6 h
   exact ⟨rfl,fun sh'=>by simp only [exec];rw [if_pos ⟨h1,h2⟩]⟩
 | kr d s b z=>
   obtain ⟨k,k',n,rfl,h1,h2,h3,h4,rfl,rfl⟩:=jv h
   exact ⟨rfl,fun sh'=>by simp [exec,h1,h2,h3,h4]⟩
 | append s b=>
   obtain ⟨s,x,y,ts,rfl,h1,rfl⟩:=jT h
   exact ⟨rfl,fun sh'=>by simp [exec,h1]⟩
 | dH s b ag=>simp [AK.iS] at ht
 | gW s b=>
   obtain ⟨s,x,e,xs,p,rfl,h0,h1,rfl⟩:=je h
   exact ⟨rfl,fun sh'=>by simp [exec,h0,h1]⟩
 | jY s z=>simp [AK.iS] at ht
 | lR s=>simp [AK.iS] at ht
 | clone s b=>
   obtain ⟨x,y,ts,rfl,h1,rfl⟩:=nE h
   exact ⟨rfl,fun sh'=>by simp [exec,h1]⟩
 | aq g=>
   simp only [exec] at h ⊢
   split at h
   · rename_i dO hp
     simp only [Option.map_eq_some_iff] at h
     obtain ⟨rs,h1,rfl⟩:=h
     exact ⟨rfl,fun sh'=>by simp [h1]⟩
   · simp at h
 | lA g=>
   simp only [exec] at h ⊢
   split at h
   · rename_i dO hp
     split at h
     · rename_i rs ts1 h1
       cases h
       exact ⟨rfl,fun sh'=>by simp [h1]⟩
     · simp at h
   · simp at h
 | _=>simp [AK.iS] at ht
theorem PL {op:AK} {vals:List AV} {cells:Option (List AV)} {sh:Sh} {ae:aH} {r:Out} (ht:op.gr=false) (h:exec orc op vals cells sh ae=some r) :
   r.ae=ae∧∀ts,exec orc op vals cells sh ts=some { r with ae:=ts }:=by
 cases op with
 | v vo=>
   simp only [exec,Option.map_eq_some_iff] at h ⊢
   obtain ⟨x,h1,rfl⟩:=h
   exact ⟨rfl,fun ts=>⟨x,h1,rfl⟩⟩
 | bh k o s ag=>
   obtain ⟨cs,x,rfl,rfl,hx,rfl⟩:=iB h
   exact ⟨rfl,fun ts=>by simp [exec,hx]⟩
 | cY k o s=>
   obtain ⟨cs,v,rfl,rfl,h1,h2,h3,rfl⟩:=iL h
   exact ⟨rfl,fun ts=>by simp [exec,h1,h2,h3]⟩
 | alloc k z=>
   obtain ⟨rfl,rfl,rfl⟩:=jt h
   exact ⟨rfl,fun ts=>by simp [exec]⟩
 | box k s=>
   obtain ⟨v,rfl,rfl,h1,h2,rfl⟩:=l6 h
   exact ⟨rfl,fun ts=>by simp only [exec];rw [if_pos ⟨h1,h2⟩]⟩
 | kr d s b z=>
   obtain ⟨k,k',n,rfl,h1,h2,h3,h4,rfl,rfl⟩:=jv h
   exact ⟨rfl,fun ts=>by simp [exec,h1,h2,h3,h4]⟩
 | append s b=>simp [AK.gr] at ht
 | dH s b ag=>simp [AK.gr] at ht
 | gW s b=>simp [AK.gr] at ht
 | clone s b=>simp [AK.gr] at ht
 | lQ s b ag=>
   rcases vals with _ | ⟨x,_ | ⟨_,_⟩⟩
   · simp [exec] at h
   · simp only [exec,j8] at h ⊢
     split at h
     · rename_i xs hx
       split at h
       · rename_i hh
         simp only [Option.map_map,Option.map_eq_some_iff] at h
         obtain ⟨⟨y,sh'⟩,h1,rfl⟩:=h
         refine ⟨rfl,fun ts=>?_⟩
         simp [hx,hh,h1]
       · simp at h
     · simp at h
   · simp [exec] at h
 | jY s z=>
   obtain ⟨x,sh',rfl,h1,rfl⟩:=qA h
   exact ⟨rfl,fun ts=>by simp [exec,h1]⟩
 | lR s=>
   obtain ⟨x,y,xs,k,sh',rfl,h0,h1,rfl⟩:=kO h
   exact ⟨rfl,fun ts=>by simp [exec,h0,h1]⟩
 | ot=>
   obtain ⟨rfl,rfl⟩:=kN h
   exact ⟨rfl,fun ts=>by simp [exec]⟩
 | ku c ok z=>
   obtain ⟨s,k,kvs,r,rfl,h1,h2,rfl⟩:=jw h
   exact ⟨rfl,fun ts=>by simp [exec,h1,h2]⟩
 | rR c=>
   obtain ⟨s,k,v,kvs,p,kvs',rfl,h1,h2,h3,rfl⟩:=mL h
   exact ⟨rfl,fun ts=>by simp [exec,h1,h2,h3]⟩
 | aq g=>
   simp only [exec] at h ⊢
   split at h
   · rename_i dO hp
     simp only [Option.map_eq_some_iff] at h
     obtain ⟨rs,h1,rfl⟩:=h
     exact ⟨rfl,fun ts=>by simp [h1]⟩
   · simp at h
 | d7 g=>
   simp only [exec] at h ⊢
   split at h
   · rename_i dO hp
     simp only [Option.map_eq_some_iff] at h
     obtain ⟨rs,h1,rfl⟩:=h
     exact ⟨rfl,fun ts=>by simp [h1]⟩
   · simp at h
 | aF g own=>simp [AK.gr] at ht
 | lA g=>simp [AK.gr] at ht
 | jG=>simp [AK.gr] at ht
 | dw=>simp [AK.gr] at ht
 | bf s ag=>
   obtain ⟨p,x,rfl,rfl,hor⟩:=kL h
   refine ⟨rfl,fun ts=>?_⟩
   rcases hor with ⟨cs,rfl,hx⟩ | ⟨b,off,cs,rfl,hcs,hm,hx⟩
   · simp [exec,hx]
   · simp [exec,hcs,hm,hx]
 | cZ s=>
   obtain ⟨b,off,v,cs,rfl,hcs,h0,h1,h2,h3,h4,rfl⟩:=iM h
   refine ⟨rfl,fun ts=>?_⟩
   simp only [exec,hcs]
   rw [if_pos ⟨h0,h1,h2,h3,h4⟩]
 | kG s=>
   obtain ⟨b,off,v,cs,rfl,hcs,h0,h1,h2,h3,h4,rfl⟩:=jR h
   refine ⟨rfl,fun ts=>?_⟩
   simp only [exec,hcs]
   rw [if_pos ⟨h0,h1,h2,h3,h4⟩]
 | nA s=>
   obtain ⟨v,rfl,h1,h2,h3,rfl⟩:=mJ h
   refine ⟨rfl,fun ts=>?_⟩
   simp only [exec]
   rw [if_pos ⟨h1,h2,h3⟩]
 | vW s=>
   obtain ⟨v,rfl,h1,h2,h3,rfl⟩:=mK h
   refine ⟨rfl,fun ts=>?_⟩
   simp only [exec]
   rw [if_pos ⟨h1,h2,h3⟩]
 | jX z=>
   obtain ⟨rfl,rfl⟩:=jS h
   exact ⟨rfl,fun ts=>by simp [exec]⟩
 | iY s b ag z=>
   obtain ⟨k,k',n,rfl,h1,h2,h3,h4,rfl⟩:=kM h
   exact ⟨rfl,fun ts=>by simp [exec,h1,h2,h3,h4]⟩
theorem PM {op:AK} {vals:List AV} {cells:Option (List AV)} {sh:Sh} {ae:aH} {r:Out} (ht:op.iF=false) (hk:op.key≠none) (h:exec orc op vals cells sh ae=some r):r.cells=none:=by
 cases op with
 | bh k o s ag=>
   obtain ⟨cs,x,rfl,rfl,hx,rfl⟩:=iB h
   rfl
 | cY k o s=>simp [AK.iF] at ht
 | alloc k z=>simp [AK.iF] at ht
 | box k s=>simp [AK.iF] at ht
 | kr d s b z=>simp [AK.iF] at ht
 | _=>simp [AK.key] at hk
theorem um {sz:Nat} {ag:Bool} {vals:List AV} {cells:Option (List AV)} {sh:Sh} {ae:aH} {r:Out} (h:exec orc (.bf sz ag) vals cells sh ae=some r):r.sh=sh:=by
 obtain ⟨p,x,rfl,rfl,_⟩:=kL h
 rfl
theorem uo {c:CK} {ok:Bool} {z:PV} {vals:List AV} {cells:Option (List AV)} {sh:Sh} {ae:aH} {r:Out} (h:exec orc (.ku c ok z) vals cells sh ae=some r):r.sh=sh:=by
 obtain ⟨s,k,kvs,r,rfl,_,_,rfl⟩:=jw h
 rfl
theorem sD {vals:List AV} {cells:Option (List AV)} {sh:Sh} {ae:aH} {r:Out} (h:exec orc .dw vals cells sh ae=some r):r.sh=sh:=by
 cases vals with
 | nil=>simp [exec] at h
 | cons f vals=>
   cases f with
   | fn g cap=>
     simp only [exec,Option.bind_eq_some_iff] at h
     obtain ⟨⟨v,sh',ts⟩,_,h2⟩:=h
     simp only [Ts,Option.ite_none_right_eq_some,Option.some.injEq] at h2
     rw [←h2.2]
   | _=>simp [exec] at h
theorem sE {o:dK} {E:Nat→Option AV} {M:Nat→Option (List AV)} {sh:Sh} {ae:aH} {r:Out} (ht:o.op.iS=false) (h:dD orc o E M sh ae=some r) :
   r.sh=sh∧∀sh',dD orc o E M sh' ae=some { r with sh:=sh' }:=by
 unfold dD at *
 split at h
 · simp at h
 · simp at h;subst h;exact ⟨rfl,fun _=>rfl⟩
 · split at h
   · simp at h
   · exact PK ht h
theorem yP {o:dK} {E:Nat→Option AV} {M:Nat→Option (List AV)} {sh:Sh} {ae:aH} {r:Out} (ht:o.op.uF=true) (h:dD orc o E M sh ae=some r):r.sh=sh:=by
 unfold dD at *
 split at h
 · simp at h
 · simp at h;subst h;rfl
 · split at h
   · simp at h
   · rename_i vals _
     cases ho:o.op with
     | bf sz ag=>
       rw [ho] at h
       have hl:=um h
       exact hl
     | ku c ok z=>
       rw [ho] at h
       exact uo h
     | dw=>
       rw [ho] at h
       exact sD h
     | _=>rw [ho] at ht;simp [AK.uF] at ht
theorem oR {o:dK} {E:Nat→Option AV} {M:Nat→Option (List AV)} {sh:Sh} {ae:aH} {r:Out} (ht:o.op.gr=false) (h:dD orc o E M sh ae=some r) :
   r.ae=ae∧∀ts,dD orc o E M sh ts=some { r with ae:=ts }:=by
 unfold dD at *
 split at h
 · simp at h
 · simp at h;subst h;exact ⟨rfl,fun _=>rfl⟩
 · split at h
   · simp at h
   · exact PL ht h
theorem oS {o:dK} {E:Nat→Option AV} {M:Nat→Option (List AV)} {sh:Sh} {ae:aH} {r:Out} (ht:o.op.iF=false) (hk:o.op.key≠none) (h:dD orc o E M sh ae=some r):r.cells=none:=by
 unfold dD at h
 split at h
 · simp at h
 · simp at h;subst h;rfl
 · split at h
   · simp at h
   · exact PM ht hk h
structure kb (x y:St):Prop where
 env:∀t,look x.env t=look y.env t
 mem:∀t,look x.mem t=look y.mem t
 sh:x.sh=y.sh
 ae:x.ae=y.ae
theorem kb.refl (x:St):kb x x:=⟨fun _=>rfl,fun _=>rfl,rfl,rfl⟩
theorem kb.symm {x y:St} (h:kb x y):kb y x:=⟨fun t=>(h.env t).symm,fun t=>(h.mem t).symm,h.sh.symm,h.ae.symm⟩
theorem kb.trans {x y z:St} (h:kb x y) (k:kb y z):kb x z:=⟨fun t=>(h.env t).trans (k.env t),fun t=>(h.mem t).trans (k.mem t),h.sh.trans k.sh,h.ae.trans k.ae⟩
theorem e_ (env:List (Nat×AV)) (d:Option Nat) (v:AV) (t:Nat):look (gp env d v) t=if d=some t then some v else look env t:=by
 cases d with
 | none=>simp [gp]
 | some d=>
   simp only [gp,Option.some.injEq]
   by_cases h:d=t
   · subst h;rw [if_pos rfl,bG]
   · rw [if_neg h,bY _ _ _ _ h]
theorem mP (mem:List (Nat×List AV)) (k:Option Nat) (c:Option (List AV)) (t:Nat):look (eX mem k c) t=if k=some t then (match c with | some cs=>some cs | none=>look mem t) else look mem t:=by
 cases c with
 | none=>rw [e8];split<;>rfl
 | some cs=>
   cases k with
   | none=>simp [eX]
   | some k=>
     simp only [eX,Option.some.injEq]
     by_cases h:k=t
     · subst h;rw [if_pos rfl,bG]
     · rw [if_neg h,bY _ _ _ _ h]
theorem FO {o:dK} {x y x':St} (h:kb x y) (he:eo orc o x=some x'):∃y',eo orc o y=some y'∧kb x' y':=by
 rw [eJ,Option.map_eq_some_iff] at he
 obtain ⟨r,hr,rfl⟩:=he
 have:dD orc o (look y.env) (look y.mem) y.sh y.ae=some r:=by
   rw [←h.sh,←h.ae,←hr]
   exact (h_ (fun t _=>h.env t) (fun t _=>h.mem t)).symm
 refine ⟨{ env:=gp y.env o.dst r.val,mem:=eX y.mem o.op.key r.cells,sh:=r.sh,ae:=r.ae },by rw [eJ,this];rfl,⟨fun t=>?_,fun t=>?_,rfl,rfl⟩⟩
 · simp only [e_,h.env]
 · simp only [mP,h.mem]
end
end Go.Ab
