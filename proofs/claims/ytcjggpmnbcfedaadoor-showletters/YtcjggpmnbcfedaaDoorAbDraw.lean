import Derived.Test.YtcjggpmnbcfedaaDoorAbRegion
/-
  A region that draws its order: whatever order is picked, the end is that of the text's order.
-/
set_option linter.unusedVariables false
set_option linter.unusedSimpArgs false
set_option linter.unnecessarySimpa false
set_option maxRecDepth 100000
set_option maxHeartbeats 8000000
namespace Go.Ab
section
variable {orc:cZ}
def xa (E:Nat→Option AV):c_→Option AV
 | .t n=>E n
 | .c v=>some v
def gj (E:Nat→Option AV):List c_→Option (List AV)
 | []=>some []
 | x::r=>match xa E x,gj E r with
   | some v,some vs=>some (v::vs)
   | _,_=>none
def iG (E:Nat→Option AV):Option (Nat×Bool)→Option Bool
 | none=>some true
 | some (t,b)=>match E t with
   | some (.pv (.bool c))=>some (c == b)
   | some .un=>some false
   | _=>none
def bH (orc:cZ) (o:bN) (E:Nat→Option AV) (M:Nat→Option (List AV)) (sh:Sh) (aa:al):Option Out:=
 match iG E o.guard with
 | none=>none
 | some false=>some ⟨.un,none,sh,aa⟩
 | some true=>match gj E o.args with
   | none=>none
   | some vals=>exec orc o.op vals (o.op.key.bind M) sh aa
theorem lJ (env:List (Nat×AV)):∀l,cB env l=gj (look env) l
 | []=>rfl
 | x::l=>by
   have:dZ env x=xa (look env) x:=by cases x<;>rfl
   simp only [cB,gj,this,lJ env l]
   rfl
theorem cH (o:bN) (st:St):cr orc o st=(bH orc o (look st.env) (look st.mem) st.sh st.aa).map
   fun r=>{ env:=dq st.env o.dst r.val,mem:=cM st.mem o.op.key r.cells,sh:=r.sh,aa:=r.aa }:=by
 unfold cr bH
 have hw:dm st.env o.guard=iG (look st.env) o.guard:=by
   cases o.guard with
   | none=>rfl
   | some g=>rfl
 rw [hw]
 cases iG (look st.env) o.guard with
 | none=>rfl
 | some b=>cases b with
   | false=>simp [cQ]
   | true=>
     simp only [lJ]
     cases gj (look st.env) o.args with
     | none=>rfl
     | some vals=>
       simp only
       cases exec orc o.op vals (o.op.key.bind (look st.mem)) st.sh st.aa<;>rfl
theorem iv {E E':Nat→Option AV}:∀{l:List c_},(∀t∈l.filterMap (fun | .t n=>some n | _=>none),E t=E' t)→gj E l=gj E' l
 | [],_=>rfl
 | .c v::l,h=>by
   simp only [gj,xa]
   rw [iv (l:=l) (fun t ht=>h t (by simpa using ht))]
 | .t n::l,h=>by
   simp only [gj,xa]
   rw [iv (l:=l) (fun t ht=>h t (by simp only [List.filterMap_cons,List.mem_cons];exact .inr ht)),h n (by simp)]
theorem dT {o:bN} {E E':Nat→Option AV} {M M':Nat→Option (List AV)} {sh:Sh} {aa:al} (hE:∀t∈o.looks,E t=E' t) (hM:∀k,o.op.key=some k→M k=M' k) :
   bH orc o E M sh aa=bH orc o E' M' sh aa:=by
 have h1:iG E o.guard=iG E' o.guard:=by
   cases hg:o.guard with
   | none=>rfl
   | some g=>
     obtain ⟨t,b⟩:=g
     simp only [iG]
     rw [hE t (by simp [bN.looks,hg])]
 have h2:gj E o.args=gj E' o.args:=iv fun t ht=>hE t (by simp only [bN.looks,List.mem_append];exact .inl ht)
 have h3:o.op.key.bind M=o.op.key.bind M':=by
   cases hk:o.op.key with
   | none=>rfl
   | some k=>exact hM k hk
 unfold bH
 rw [h1,h2,h3]
theorem AL {op:AK} {vals:List AV} {cells:Option (List AV)} {sh:Sh} {aa:al} {r:Out} (ht:op.eu=false) (h:exec orc op vals cells sh aa=some r) :
   r.sh=sh∧∀sh',exec orc op vals cells sh' aa=some { r with sh:=sh' }:=by
 cases op with
 | v vo=>
   simp only [exec,Option.map_eq_some_iff] at h ⊢
   obtain ⟨x,h1,rfl⟩:=h
   exact ⟨rfl,fun sh'=>⟨x,h1,rfl⟩⟩
 | dv k o s ag=>
   obtain ⟨cs,x,rfl,rfl,hx,rfl⟩:=d8 h
   exact ⟨rfl,fun sh'=>by simp [exec,hx]⟩
 | dL k o s=>
   obtain ⟨cs,v,rfl,rfl,h1,h2,h3,rfl⟩:=eh h
   exact ⟨rfl,fun sh'=>by simp [exec,h1,h2,h3]⟩
 | alloc k z=>
   obtain ⟨rfl,rfl,rfl⟩:=e7 h
   exact ⟨rfl,fun sh'=>by simp [exec]⟩
 | box k s=>
   obtain ⟨v,rfl,rfl,h1,h2,rfl⟩:=ik h
   exact ⟨rfl,fun sh'=>by simp only [exec];rw [if_pos ⟨h1,h2⟩]⟩
 | fp d s b z=>
   obtain ⟨k,k',n,rfl,h1,h2,h3,h4,rfl,rfl⟩:=e8 h
   exact ⟨rfl,fun sh'=>by simp [exec,h1,h2,h3,h4]⟩
 | append s b=>
   obtain ⟨s,x,y,ts,rfl,h1,rfl⟩:=fK h
   exact ⟨rfl,fun sh'=>by simp [exec,h1]⟩
 | cS s b ag=>simp [AK.eu] at ht
 | dz s b=>
   obtain ⟨s,x,e,xs,p,rfl,h0,h1,rfl⟩:=eJ h
   exact ⟨rfl,fun sh'=>by simp [exec,h0,h1]⟩
 | eM s z=>simp [AK.eu] at ht
 | gP s=>simp [AK.eu] at ht
 | clone s b=>
   obtain ⟨x,y,ts,rfl,h1,rfl⟩:=iT h
   exact ⟨rfl,fun sh'=>by simp [exec,h1]⟩
 | aQ g=>
   simp only [exec] at h ⊢
   split at h
   · rename_i cv hp
     simp only [Option.map_eq_some_iff] at h
     obtain ⟨rs,h1,rfl⟩:=h
     exact ⟨rfl,fun sh'=>by simp [h1]⟩
   · simp at h
 | gY g=>
   simp only [exec] at h ⊢
   split at h
   · rename_i cv hp
     split at h
     · rename_i rs ts1 h1
       cases h
       exact ⟨rfl,fun sh'=>by simp [h1]⟩
     · simp at h
   · simp at h
 | _=>simp [AK.eu] at ht
theorem AM {op:AK} {vals:List AV} {cells:Option (List AV)} {sh:Sh} {aa:al} {r:Out} (ht:op.dr=false) (h:exec orc op vals cells sh aa=some r) :
   r.aa=aa∧∀ts,exec orc op vals cells sh ts=some { r with aa:=ts }:=by
 cases op with
 | v vo=>
   simp only [exec,Option.map_eq_some_iff] at h ⊢
   obtain ⟨x,h1,rfl⟩:=h
   exact ⟨rfl,fun ts=>⟨x,h1,rfl⟩⟩
 | dv k o s ag=>
   obtain ⟨cs,x,rfl,rfl,hx,rfl⟩:=d8 h
   exact ⟨rfl,fun ts=>by simp [exec,hx]⟩
 | dL k o s=>
   obtain ⟨cs,v,rfl,rfl,h1,h2,h3,rfl⟩:=eh h
   exact ⟨rfl,fun ts=>by simp [exec,h1,h2,h3]⟩
 | alloc k z=>
   obtain ⟨rfl,rfl,rfl⟩:=e7 h
   exact ⟨rfl,fun ts=>by simp [exec]⟩
 | box k s=>
   obtain ⟨v,rfl,rfl,h1,h2,rfl⟩:=ik h
   exact ⟨rfl,fun ts=>by simp only [exec];rw [if_pos ⟨h1,h2⟩]⟩
 | fp d s b z=>
   obtain ⟨k,k',n,rfl,h1,h2,h3,h4,rfl,rfl⟩:=e8 h
   exact ⟨rfl,fun ts=>by simp [exec,h1,h2,h3,h4]⟩
 | append s b=>simp [AK.dr] at ht
 | cS s b ag=>simp [AK.dr] at ht
 | dz s b=>simp [AK.dr] at ht
 | clone s b=>simp [AK.dr] at ht
 | gp s b ag=>
   rcases vals with _ | ⟨x,_ | ⟨_,_⟩⟩
   · simp [exec] at h
   · simp only [exec,fW] at h ⊢
     split at h
     · rename_i xs hx
       split at h
       · rename_i hh
         simp only [Option.map_map,Option.map_eq_some_iff] at h
         obtain ⟨⟨y,sh'⟩,h1,rfl⟩:=h
         refine ⟨rfl,fun ts=>?_⟩
         simp [hx,hh,h1]
       · simp at h
     · simp at h
   · simp [exec] at h
 | eM s z=>
   obtain ⟨x,sh',rfl,h1,rfl⟩:=kd h
   exact ⟨rfl,fun ts=>by simp [exec,h1]⟩
 | gP s=>
   obtain ⟨x,y,xs,k,sh',rfl,h0,h1,rfl⟩:=gB h
   exact ⟨rfl,fun ts=>by simp [exec,h0,h1]⟩
 | jc=>
   obtain ⟨rfl,rfl⟩:=gA h
   exact ⟨rfl,fun ts=>by simp [exec]⟩
 | gf c ok z=>
   obtain ⟨s,k,kvs,r,rfl,h1,h2,rfl⟩:=e9 h
   exact ⟨rfl,fun ts=>by simp [exec,h1,h2]⟩
 | kW c=>
   obtain ⟨s,k,v,kvs,p,kvs',rfl,h1,h2,h3,rfl⟩:=iD h
   exact ⟨rfl,fun ts=>by simp [exec,h1,h2,h3]⟩
 | aQ g=>
   simp only [exec] at h ⊢
   split at h
   · rename_i cv hp
     simp only [Option.map_eq_some_iff] at h
     obtain ⟨rs,h1,rfl⟩:=h
     exact ⟨rfl,fun ts=>by simp [h1]⟩
   · simp at h
 | eo g=>
   simp only [exec] at h ⊢
   split at h
   · rename_i cv hp
     simp only [Option.map_eq_some_iff] at h
     obtain ⟨rs,h1,rfl⟩:=h
     exact ⟨rfl,fun ts=>by simp [h1]⟩
   · simp at h
 | gQ g own=>simp [AK.dr] at ht
 | gY g=>simp [AK.dr] at ht
 | fq=>simp [AK.dr] at ht
 | bP=>simp [AK.dr] at ht
 | ck s ag=>
   obtain ⟨p,x,rfl,rfl,hor⟩:=gw h
   refine ⟨rfl,fun ts=>?_⟩
   rcases hor with ⟨cs,rfl,hx⟩ | ⟨b,off,cs,rfl,hcs,hm,hx⟩
   · simp [exec,hx]
   · simp [exec,hcs,hm,hx]
 | d4 s=>
   obtain ⟨b,off,v,cs,rfl,hcs,h0,h1,h2,h3,h4,rfl⟩:=ei h
   refine ⟨rfl,fun ts=>?_⟩
   simp only [exec,hcs]
   rw [if_pos ⟨h0,h1,h2,h3,h4⟩]
 | gn s=>
   obtain ⟨b,off,v,cs,rfl,hcs,h0,h1,h2,h3,h4,rfl⟩:=fH h
   refine ⟨rfl,fun ts=>?_⟩
   simp only [exec,hcs]
   rw [if_pos ⟨h0,h1,h2,h3,h4⟩]
 | kV s=>
   obtain ⟨v,rfl,h1,h2,h3,rfl⟩:=iB h
   refine ⟨rfl,fun ts=>?_⟩
   simp only [exec]
   rw [if_pos ⟨h1,h2,h3⟩]
 | nq s=>
   obtain ⟨v,rfl,h1,h2,h3,rfl⟩:=iC h
   refine ⟨rfl,fun ts=>?_⟩
   simp only [exec]
   rw [if_pos ⟨h1,h2,h3⟩]
 | fR z=>
   obtain ⟨rfl,rfl⟩:=fJ h
   exact ⟨rfl,fun ts=>by simp [exec]⟩
 | gO s b ag z=>
   obtain ⟨k,k',n,rfl,h1,h2,h3,h4,rfl⟩:=gz h
   exact ⟨rfl,fun ts=>by simp [exec,h1,h2,h3,h4]⟩
theorem AN {op:AK} {vals:List AV} {cells:Option (List AV)} {sh:Sh} {aa:al} {r:Out} (ht:op.d_=false) (hk:op.key≠none) (h:exec orc op vals cells sh aa=some r):r.cells=none:=by
 cases op with
 | dv k o s ag=>
   obtain ⟨cs,x,rfl,rfl,hx,rfl⟩:=d8 h
   rfl
 | dL k o s=>simp [AK.d_] at ht
 | alloc k z=>simp [AK.d_] at ht
 | box k s=>simp [AK.d_] at ht
 | fp d s b z=>simp [AK.d_] at ht
 | _=>simp [AK.key] at hk
theorem mD {sz:Nat} {ag:Bool} {vals:List AV} {cells:Option (List AV)} {sh:Sh} {aa:al} {r:Out} (h:exec orc (.ck sz ag) vals cells sh aa=some r):r.sh=sh:=by
 obtain ⟨p,x,rfl,rfl,_⟩:=gw h
 rfl
theorem mE {c:CK} {ok:Bool} {z:PV} {vals:List AV} {cells:Option (List AV)} {sh:Sh} {aa:al} {r:Out} (h:exec orc (.gf c ok z) vals cells sh aa=some r):r.sh=sh:=by
 obtain ⟨s,k,kvs,r,rfl,_,_,rfl⟩:=e9 h
 rfl
theorem lK {vals:List AV} {cells:Option (List AV)} {sh:Sh} {aa:al} {r:Out} (h:exec orc .bP vals cells sh aa=some r):r.sh=sh:=by
 cases vals with
 | nil=>simp [exec] at h
 | cons f vals=>
   cases f with
   | fn g cap=>
     simp only [exec,Option.bind_eq_some_iff] at h
     obtain ⟨⟨v,sh',ts⟩,_,h2⟩:=h
     simp only [B_,Option.ite_none_right_eq_some,Option.some.injEq] at h2
     rw [←h2.2]
   | _=>simp [exec] at h
theorem lL {o:bN} {E:Nat→Option AV} {M:Nat→Option (List AV)} {sh:Sh} {aa:al} {r:Out} (ht:o.op.eu=false) (h:bH orc o E M sh aa=some r) :
   r.sh=sh∧∀sh',bH orc o E M sh' aa=some { r with sh:=sh' }:=by
 unfold bH at *
 split at h
 · simp at h
 · simp at h;subst h;exact ⟨rfl,fun _=>rfl⟩
 · split at h
   · simp at h
   · exact AL ht h
theorem pO {o:bN} {E:Nat→Option AV} {M:Nat→Option (List AV)} {sh:Sh} {aa:al} {r:Out} (ht:o.op.mN=true) (h:bH orc o E M sh aa=some r):r.sh=sh:=by
 unfold bH at *
 split at h
 · simp at h
 · simp at h;subst h;rfl
 · split at h
   · simp at h
   · rename_i vals _
     cases ho:o.op with
     | ck sz ag=>
       rw [ho] at h
       have hl:=mD h
       exact hl
     | gf c ok z=>
       rw [ho] at h
       exact mE h
     | bP=>
       rw [ho] at h
       exact lK h
     | _=>rw [ho] at ht;simp [AK.mN] at ht
theorem jz {o:bN} {E:Nat→Option AV} {M:Nat→Option (List AV)} {sh:Sh} {aa:al} {r:Out} (ht:o.op.dr=false) (h:bH orc o E M sh aa=some r) :
   r.aa=aa∧∀ts,bH orc o E M sh ts=some { r with aa:=ts }:=by
 unfold bH at *
 split at h
 · simp at h
 · simp at h;subst h;exact ⟨rfl,fun _=>rfl⟩
 · split at h
   · simp at h
   · exact AM ht h
theorem jA {o:bN} {E:Nat→Option AV} {M:Nat→Option (List AV)} {sh:Sh} {aa:al} {r:Out} (ht:o.op.d_=false) (hk:o.op.key≠none) (h:bH orc o E M sh aa=some r):r.cells=none:=by
 unfold bH at h
 split at h
 · simp at h
 · simp at h;subst h;rfl
 · split at h
   · simp at h
   · exact AN ht hk h
structure fZ (x y:St):Prop where
 env:∀t,look x.env t=look y.env t
 mem:∀t,look x.mem t=look y.mem t
 sh:x.sh=y.sh
 aa:x.aa=y.aa
theorem fZ.refl (x:St):fZ x x:=⟨fun _=>rfl,fun _=>rfl,rfl,rfl⟩
theorem fZ.symm {x y:St} (h:fZ x y):fZ y x:=⟨fun t=>(h.env t).symm,fun t=>(h.mem t).symm,h.sh.symm,h.aa.symm⟩
theorem fZ.trans {x y z:St} (h:fZ x y) (k:fZ y z):fZ x z:=⟨fun t=>(h.env t).trans (k.env t),fun t=>(h.mem t).trans (k.mem t),h.sh.trans k.sh,h.aa.trans k.aa⟩
theorem cR (env:List (Nat×AV)) (d:Option Nat) (v:AV) (t:Nat):look (dq env d v) t=if d=some t then some v else look env t:=by
 cases d with
 | none=>simp [dq]
 | some d=>
   simp only [dq,Option.some.injEq]
   by_cases h:d=t
   · subst h;rw [if_pos rfl,aS]
   · rw [if_neg h,aL _ _ _ _ h]
theorem iH (mem:List (Nat×List AV)) (k:Option Nat) (c:Option (List AV)) (t:Nat):look (cM mem k c) t=if k=some t then (match c with | some cs=>some cs | none=>look mem t) else look mem t:=by
 cases c with
 | none=>rw [cQ];split<;>rfl
 | some cs=>
   cases k with
   | none=>simp [cM]
   | some k=>
     simp only [cM,Option.some.injEq]
     by_cases h:k=t
     · subst h;rw [if_pos rfl,aS]
     · rw [if_neg h,aL _ _ _ _ h]
theorem uD {o:bN} {x y x':St} (h:fZ x y) (he:cr orc o x=some x'):∃y',cr orc o y=some y'∧fZ x' y':=by
 rw [cH,Option.map_eq_some_iff] at he
 obtain ⟨r,hr,rfl⟩:=he
 have:bH orc o (look y.env) (look y.mem) y.sh y.aa=some r:=by
   rw [←h.sh,←h.aa,←hr]
   exact (dT (fun t _=>h.env t) (fun t _=>h.mem t)).symm
 refine ⟨{ env:=dq y.env o.dst r.val,mem:=cM y.mem o.op.key r.cells,sh:=r.sh,aa:=r.aa },by rw [cH,this];rfl,⟨fun t=>?_,fun t=>?_,rfl,rfl⟩⟩
 · simp only [cR,h.env]
 · simp only [iH,h.mem]
end
end Go.Ab
