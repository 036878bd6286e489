import Derived.Test.YtfhhognolpjikaaAbRegion
/-
  A region that draws its order: whatever order is picked, the end is that of the text's order.
-/
set_option linter.unusedVariables false
set_option linter.unusedSimpArgs false
set_option maxRecDepth 100000
set_option maxHeartbeats 8000000
namespace Go.Ab
section
variable {orc:d0}
def Dq (E:Nat→Option AV):d3→Option AV
 | .t n=>E n
 | .c v=>some v
def jd (E:Nat→Option AV):List d3→Option (List AV)
 | []=>some []
 | x::r=>match Dq E x,jd E r with
   | some v,some vs=>some (v::vs)
   | _,_=>none
def jv (E:Nat→Option AV):Option (Nat×Bool)→Option Bool
 | none=>some true
 | some (t,b)=>match E t with
   | some (.pv (.bool c))=>some (c == b)
   | some .un=>some false
   | _=>none
def dm (orc:d0) (o:dt) (E:Nat→Option AV) (M:Nat→Option (List AV)) (sh:Sh) (aa:au):Option Out:=
 match jv E o.guard with
 | none=>none
 | some false=>some ⟨.un,none,sh,aa⟩
 | some true=>match jd E o.args with
   | none=>none
   | some vals=>exec orc o.op vals (o.op.key.bind M) sh aa
theorem m9 (env:List (Nat×AV)):∀l,dv env l=jd (look env) l
 | []=>rfl
 | x::l=>by
   have:ff env x=Dq (look env) x:=by cases x<;>rfl
   simp only [dv,jd,this,m9 env l]
   rfl
theorem ia (o:dt) (st:St):dQ orc o st=(dm orc o (look st.env) (look st.mem) st.sh st.aa).map
   fun r=>{ env:=eU st.env o.dst r.val,mem:=ew st.mem o.op.key r.cells,sh:=r.sh,aa:=r.aa }:=by
 unfold dQ dm
 have hw:eh st.env o.guard=jv (look st.env) o.guard:=by
   cases o.guard with
   | none=>rfl
   | some g=>rfl
 rw [hw]
 cases jv (look st.env) o.guard with
 | none=>rfl
 | some b=>cases b with
   | false=>simp [eo]
   | true=>
     simp only [m9]
     cases jd (look st.env) o.args with
     | none=>rfl
     | some vals=>
       simp only
       cases exec orc o.op vals (o.op.key.bind (look st.mem)) st.sh st.aa<;>rfl
theorem je {E E':Nat→Option AV}:∀{l:List d3},(∀t∈l.filterMap (fun | .t n=>some n | _=>none),E t=E' t)→jd E l=jd E' l
 | [],_=>rfl
 | .c v::l,h=>by
   simp only [jd,Dq]
   rw [je (l:=l) (fun t ht=>h t (by simpa using ht))]
 | .t n::l,h=>by
   simp only [jd,Dq]
   rw [je (l:=l) (fun t ht=>h t (by simp only [List.filterMap_cons,List.mem_cons];exact .inr ht)),h n (by simp)]
theorem iH {o:dt} {E E':Nat→Option AV} {M M':Nat→Option (List AV)} {sh:Sh} {aa:au} (hE:∀t∈o.looks,E t=E' t) (hM:∀k,o.op.key=some k→M k=M' k) :
   dm orc o E M sh aa=dm orc o E' M' sh aa:=by
 have h1:jv E o.guard=jv E' o.guard:=by
   cases hg:o.guard with
   | none=>rfl
   | some g=>
     obtain ⟨t,b⟩:=g
     simp only [jv]
     rw [hE t (by simp [dt.looks,hg])]
 have h2:jd E o.args=jd E' o.args:=je fun t ht=>hE t (by simp only [dt.looks,List.mem_append];exact .inl ht)
 have h3:o.op.key.bind M=o.op.key.bind M':=by
   cases hk:o.op.key with
   | none=>rfl
   | some k=>exact hM k hk
 unfold dm
 rw [h1,h2,h3]
theorem FD {op:AK} {vals:List AV} {cells:Option (List AV)} {sh:Sh} {aa:au} {r:Out} (ht:op.fU=false) (h:exec orc op vals cells sh aa=some r) :
   r.sh=sh∧∀sh',exec orc op vals cells sh' aa=some { r with sh:=sh' }:=by
 cases op with
 | v vo=>
   simp only [exec,Option.map_eq_some_iff] at h ⊢
   obtain ⟨x,h1,rfl⟩:=h
   exact ⟨rfl,fun sh'=>⟨x,h1,rfl⟩⟩
 | de k o s ag=>
   obtain ⟨cs,x,rfl,rfl,hx,rfl⟩:=ft h
   exact ⟨rfl,fun sh'=>by simp [exec,hx]⟩
 | d4 k o s=>
   obtain ⟨cs,v,rfl,rfl,h1,h2,h3,rfl⟩:=fK h
   exact ⟨rfl,fun sh'=>by simp [exec,h1,h2,h3]⟩
 | alloc k z=>
   obtain ⟨rfl,rfl,rfl⟩:=gB h
   exact ⟨rfl,fun sh'=>by simp [exec]⟩
 | box k s=>
   obtain ⟨v,rfl,rfl,h1,h2,rfl⟩:=i6 h
   exact ⟨rfl,fun sh'=>by simp only [exec];rw [if_pos ⟨h1,h2⟩]⟩
 | append s b=>
   obtain ⟨s,x,y,ts,rfl,h1,rfl⟩:=gU h
   exact ⟨rfl,fun sh'=>by simp [exec,h1]⟩
 | cI s b ag=>simp [AK.fU] at ht
 | eg s b=>
   obtain ⟨s,x,e,xs,p,rfl,h0,h1,rfl⟩:=gi h
   exact ⟨rfl,fun sh'=>by simp [exec,h0,h1]⟩
 | fR s z=>simp [AK.fU] at ht
 | iP s=>simp [AK.fU] at ht
 | clone s b=>
   obtain ⟨x,y,ts,rfl,h1,rfl⟩:=jY h
   exact ⟨rfl,fun sh'=>by simp [exec,h1]⟩
 | aB g=>
   simp only [exec] at h ⊢
   split at h
   · rename_i cU hp
     simp only [Option.map_eq_some_iff] at h
     obtain ⟨rs,h1,rfl⟩:=h
     exact ⟨rfl,fun sh'=>by simp [h1]⟩
   · simp at h
 | hP g=>
   simp only [exec] at h ⊢
   split at h
   · rename_i cU hp
     split at h
     · rename_i rs ts1 h1
       cases h
       exact ⟨rfl,fun sh'=>by simp [h1]⟩
     · simp at h
   · simp at h
 | _=>simp [AK.fU] at ht
theorem FE {op:AK} {vals:List AV} {cells:Option (List AV)} {sh:Sh} {aa:au} {r:Out} (ht:op.eL=false) (h:exec orc op vals cells sh aa=some r) :
   r.aa=aa∧∀ts,exec orc op vals cells sh ts=some { r with aa:=ts }:=by
 cases op with
 | v vo=>
   simp only [exec,Option.map_eq_some_iff] at h ⊢
   obtain ⟨x,h1,rfl⟩:=h
   exact ⟨rfl,fun ts=>⟨x,h1,rfl⟩⟩
 | de k o s ag=>
   obtain ⟨cs,x,rfl,rfl,hx,rfl⟩:=ft h
   exact ⟨rfl,fun ts=>by simp [exec,hx]⟩
 | d4 k o s=>
   obtain ⟨cs,v,rfl,rfl,h1,h2,h3,rfl⟩:=fK h
   exact ⟨rfl,fun ts=>by simp [exec,h1,h2,h3]⟩
 | alloc k z=>
   obtain ⟨rfl,rfl,rfl⟩:=gB h
   exact ⟨rfl,fun ts=>by simp [exec]⟩
 | box k s=>
   obtain ⟨v,rfl,rfl,h1,h2,rfl⟩:=i6 h
   exact ⟨rfl,fun ts=>by simp only [exec];rw [if_pos ⟨h1,h2⟩]⟩
 | append s b=>simp [AK.eL] at ht
 | cI s b ag=>simp [AK.eL] at ht
 | eg s b=>simp [AK.eL] at ht
 | clone s b=>simp [AK.eL] at ht
 | fR s z=>
   obtain ⟨x,sh',rfl,h1,rfl⟩:=lT h
   exact ⟨rfl,fun ts=>by simp [exec,h1]⟩
 | iP s=>
   obtain ⟨x,y,xs,k,sh',rfl,h0,h1,rfl⟩:=iz h
   exact ⟨rfl,fun ts=>by simp [exec,h0,h1]⟩
 | kj=>
   obtain ⟨rfl,rfl⟩:=iy h
   exact ⟨rfl,fun ts=>by simp [exec]⟩
 | hH c ok z=>
   obtain ⟨s,k,kvs,r,rfl,h1,h2,rfl⟩:=gC h
   exact ⟨rfl,fun ts=>by simp [exec,h1,h2]⟩
 | mG c=>
   obtain ⟨s,k,v,kvs,p,kvs',rfl,h1,h2,h3,rfl⟩:=js h
   exact ⟨rfl,fun ts=>by simp [exec,h1,h2,h3]⟩
 | aB g=>
   simp only [exec] at h ⊢
   split at h
   · rename_i cU hp
     simp only [Option.map_eq_some_iff] at h
     obtain ⟨rs,h1,rfl⟩:=h
     exact ⟨rfl,fun ts=>by simp [h1]⟩
   · simp at h
 | eI g=>
   simp only [exec] at h ⊢
   split at h
   · rename_i cU hp
     simp only [Option.map_eq_some_iff] at h
     obtain ⟨rs,h1,rfl⟩:=h
     exact ⟨rfl,fun ts=>by simp [h1]⟩
   · simp at h
 | aA g own=>simp [AK.eL] at ht
 | hP g=>simp [AK.eL] at ht
 | eB=>simp [AK.eL] at ht
 | aR s ag=>
   obtain ⟨p,x,rfl,rfl,hor⟩:=jX h
   refine ⟨rfl,fun ts=>?_⟩
   rcases hor with ⟨cs,rfl,hx⟩ | ⟨b,off,cs,rfl,hcs,hm,hx⟩
   · simp [exec,hx]
   · simp [exec,hcs,hm,hx]
 | cz s=>
   obtain ⟨b,off,v,cs,rfl,hcs,h0,h1,h2,h3,h4,rfl⟩:=gS h
   refine ⟨rfl,fun ts=>?_⟩
   simp only [exec,hcs]
   rw [if_pos ⟨h0,h1,h2,h3,h4⟩]
 | kX s=>
   obtain ⟨v,rfl,h1,h2,h3,rfl⟩:=jr h
   refine ⟨rfl,fun ts=>?_⟩
   simp only [exec]
   rw [if_pos ⟨h1,h2,h3⟩]
 | gl z=>
   obtain ⟨rfl,rfl⟩:=gT h
   exact ⟨rfl,fun ts=>by simp [exec]⟩
 | jI s b ag z=>
   obtain ⟨k,k',n,rfl,h1,h2,h3,h4,rfl⟩:=ix h
   exact ⟨rfl,fun ts=>by simp [exec,h1,h2,h3,h4]⟩
theorem FG {op:AK} {vals:List AV} {cells:Option (List AV)} {sh:Sh} {aa:au} {r:Out} (ht:op.f_=false) (hk:op.key≠none) (h:exec orc op vals cells sh aa=some r):r.cells=none:=by
 cases op with
 | de k o s ag=>
   obtain ⟨cs,x,rfl,rfl,hx,rfl⟩:=ft h
   rfl
 | d4 k o s=>simp [AK.f_] at ht
 | alloc k z=>simp [AK.f_] at ht
 | box k s=>simp [AK.f_] at ht
 | _=>simp [AK.key] at hk
theorem oa {sz:Nat} {ag:Bool} {vals:List AV} {cells:Option (List AV)} {sh:Sh} {aa:au} {r:Out} (h:exec orc (.aR sz ag) vals cells sh aa=some r):r.sh=sh:=by
 obtain ⟨p,x,rfl,rfl,_⟩:=jX h
 rfl
theorem ob {c:CK} {ok:Bool} {z:PV} {vals:List AV} {cells:Option (List AV)} {sh:Sh} {aa:au} {r:Out} (h:exec orc (.hH c ok z) vals cells sh aa=some r):r.sh=sh:=by
 obtain ⟨s,k,kvs,r,rfl,_,_,rfl⟩:=gC h
 rfl
theorem m_ {o:dt} {E:Nat→Option AV} {M:Nat→Option (List AV)} {sh:Sh} {aa:au} {r:Out} (ht:o.op.fU=false) (h:dm orc o E M sh aa=some r) :
   r.sh=sh∧∀sh',dm orc o E M sh' aa=some { r with sh:=sh' }:=by
 unfold dm at *
 split at h
 · simp at h
 · simp at h;subst h;exact ⟨rfl,fun _=>rfl⟩
 · split at h
   · simp at h
   · exact FD ht h
theorem rn {o:dt} {E:Nat→Option AV} {M:Nat→Option (List AV)} {sh:Sh} {aa:au} {r:Out} (ht:o.op.oq=true) (h:dm orc o E M sh aa=some r):r.sh=sh:=by
 unfold dm at *
 split at h
 · simp at h
 · simp at h;subst h;rfl
 · split at h
   · simp at h
   · rename_i vals _
     cases ho:o.op with
     | aR sz ag=>
       rw [ho] at h
       have hl:=oa h
       exact hl
     | hH c ok z=>
       rw [ho] at h
       exact ob h
     | _=>rw [ho] at ht;simp [AK.oq] at ht
theorem kK {o:dt} {E:Nat→Option AV} {M:Nat→Option (List AV)} {sh:Sh} {aa:au} {r:Out} (ht:o.op.eL=false) (h:dm orc o E M sh aa=some r) :
   r.aa=aa∧∀ts,dm orc o E M sh ts=some { r with aa:=ts }:=by
 unfold dm at *
 split at h
 · simp at h
 · simp at h;subst h;exact ⟨rfl,fun _=>rfl⟩
 · split at h
   · simp at h
   · exact FE ht h
theorem kL {o:dt} {E:Nat→Option AV} {M:Nat→Option (List AV)} {sh:Sh} {aa:au} {r:Out} (ht:o.op.f_=false) (hk:o.op.key≠none) (h:dm orc o E M sh aa=some r):r.cells=none:=by
 unfold dm at h
 split at h
 · simp at h
 · simp at h;subst h;rfl
 · split at h
   · simp at h
   · exact FG ht hk h
structure ib (x y:St):Prop where
 env:∀t,look x.env t=look y.env t
 mem:∀t,look x.mem t=look y.mem t
 sh:x.sh=y.sh
 aa:x.aa=y.aa
theorem ib.refl (x:St):ib x x:=⟨fun _=>rfl,fun _=>rfl,rfl,rfl⟩
theorem ib.symm {x y:St} (h:ib x y):ib y x:=⟨fun t=>(h.env t).symm,fun t=>(h.mem t).symm,h.sh.symm,h.aa.symm⟩
theorem ib.trans {x y z:St} (h:ib x y) (k:ib y z):ib x z:=⟨fun t=>(h.env t).trans (k.env t),fun t=>(h.mem t).trans (k.mem t),h.sh.trans k.sh,h.aa.trans k.aa⟩
theorem jw (env:List (Nat×AV)) (d:Option Nat) (v:AV) (t:Nat):look (eU env d v) t=if d=some t then some v else look env t:=by
 cases d with
 | none=>simp [eU]
 | some d=>
   simp only [eU,Option.some.injEq]
   by_cases h:d=t
   · subst h;rw [if_pos rfl,bM]
   · rw [if_neg h,bG _ _ _ _ h]
theorem jx (mem:List (Nat×List AV)) (k:Option Nat) (c:Option (List AV)) (t:Nat):look (ew mem k c) t=if k=some t then (match c with | some cs=>some cs | none=>look mem t) else look mem t:=by
 cases c with
 | none=>rw [eo];split<;>rfl
 | some cs=>
   cases k with
   | none=>simp [ew]
   | some k=>
     simp only [ew,Option.some.injEq]
     by_cases h:k=t
     · subst h;rw [if_pos rfl,bM]
     · rw [if_neg h,bG _ _ _ _ h]
theorem x8 {o:dt} {x y x':St} (h:ib x y) (he:dQ orc o x=some x'):∃y',dQ orc o y=some y'∧ib x' y':=by
 rw [ia,Option.map_eq_some_iff] at he
 obtain ⟨r,hr,rfl⟩:=he
 have:dm orc o (look y.env) (look y.mem) y.sh y.aa=some r:=by
   rw [←h.sh,←h.aa,←hr]
   exact (iH (fun t _=>h.env t) (fun t _=>h.mem t)).symm
 refine ⟨{ env:=eU y.env o.dst r.val,mem:=ew y.mem o.op.key r.cells,sh:=r.sh,aa:=r.aa },by rw [ia,this];rfl,⟨fun t=>?_,fun t=>?_,rfl,rfl⟩⟩
 · simp only [jw,h.env]
 · simp only [jx,h.mem]
end
end Go.Ab
