import Derived.Test.YtcjggpmnbcfedaaDoorAbRegion
/-
  A region that draws its order: whatever order is picked, the end is that of the text's order.
-/
set_option linter.unusedVariables false
set_option linter.unusedSimpArgs false
set_option maxRecDepth 100000
set_option maxHeartbeats 8000000
namespace Go.Ab
section
variable {orc:dC}
def Cr (E:Nat→Option AV):dD→Option AV
 | .t n=>E n
 | .c v=>some v
def iL (E:Nat→Option AV):List dD→Option (List AV)
 | []=>some []
 | x::r=>match Cr E x,iL E r with
   | some v,some vs=>some (v::vs)
   | _,_=>none
def i5 (E:Nat→Option AV):Option (Nat×Bool)→Option Bool
 | none=>some true
 | some (t,b)=>match E t with
   | some (.pv (.bool c))=>some (c == b)
   | some .un=>some false
   | _=>none
def cW (orc:dC) (o:dd) (E:Nat→Option AV) (M:Nat→Option (List AV)) (sh:Sh) (aa:au):Option Out:=
 match i5 E o.guard with
 | none=>none
 | some false=>some ⟨.un,none,sh,aa⟩
 | some true=>match iL E o.args with
   | none=>none
   | some vals=>exec orc o.op vals (o.op.key.bind M) sh aa
theorem mw (env:List (Nat×AV)):∀l,dc env l=iL (look env) l
 | []=>rfl
 | x::l=>by
   have:eJ env x=Cr (look env) x:=by cases x<;>rfl
   simp only [dc,iL,this,mw env l]
   rfl
theorem gJ (o:dd) (st:St):dp orc o st=(cW orc o (look st.env) (look st.mem) st.sh st.aa).map
   fun r=>{ env:=ep st.env o.dst r.val,mem:=dZ st.mem o.op.key r.cells,sh:=r.sh,aa:=r.aa }:=by
 unfold dp cW
 have hw:dQ st.env o.guard=i5 (look st.env) o.guard:=by
   cases o.guard with
   | none=>rfl
   | some g=>rfl
 rw [hw]
 cases i5 (look st.env) o.guard with
 | none=>rfl
 | some b=>cases b with
   | false=>simp [dV]
   | true=>
     simp only [mw]
     cases iL (look st.env) o.args with
     | none=>rfl
     | some vals=>
       simp only
       cases exec orc o.op vals (o.op.key.bind (look st.mem)) st.sh st.aa<;>rfl
theorem iM {E E':Nat→Option AV}:∀{l:List dD},(∀t∈l.filterMap (fun | .t n=>some n | _=>none),E t=E' t)→iL E l=iL E' l
 | [],_=>rfl
 | .c v::l,h=>by
   simp only [iL,Cr]
   rw [iM (l:=l) (fun t ht=>h t (by simpa using ht))]
 | .t n::l,h=>by
   simp only [iL,Cr]
   rw [iM (l:=l) (fun t ht=>h t (by simp only [List.filterMap_cons,List.mem_cons];exact .inr ht)),h n (by simp)]
theorem hZ {o:dd} {E E':Nat→Option AV} {M M':Nat→Option (List AV)} {sh:Sh} {aa:au} (hE:∀t∈o.looks,E t=E' t) (hM:∀k,o.op.key=some k→M k=M' k) :
   cW orc o E M sh aa=cW orc o E' M' sh aa:=by
 have h1:i5 E o.guard=i5 E' o.guard:=by
   cases hg:o.guard with
   | none=>rfl
   | some g=>
     obtain ⟨t,b⟩:=g
     simp only [i5]
     rw [hE t (by simp [dd.looks,hg])]
 have h2:iL E o.args=iL E' o.args:=iM fun t ht=>hE t (by simp only [dd.looks,List.mem_append];exact .inl ht)
 have h3:o.op.key.bind M=o.op.key.bind M':=by
   cases hk:o.op.key with
   | none=>rfl
   | some k=>exact hM k hk
 unfold cW
 rw [h1,h2,h3]
theorem D1 {op:AK} {vals:List AV} {cells:Option (List AV)} {sh:Sh} {aa:au} {r:Out} (ht:op.e6=false) (h:exec orc op vals cells sh aa=some r) :
   r.sh=sh∧∀sh',exec orc op vals cells sh' aa=some { r with sh:=sh' }:=by
 cases op with
 | v vo=>
   simp only [exec,Option.map_eq_some_iff] at h ⊢
   obtain ⟨x,h1,rfl⟩:=h
   exact ⟨rfl,fun sh'=>⟨x,h1,rfl⟩⟩
 | cD k o s ag=>
   obtain ⟨cs,x,rfl,rfl,hx,rfl⟩:=eP h
   exact ⟨rfl,fun sh'=>by simp [exec,hx]⟩
 | ee k o s=>
   obtain ⟨cs,v,rfl,rfl,h1,h2,h3,rfl⟩:=eX h
   exact ⟨rfl,fun sh'=>by simp [exec,h1,h2,h3]⟩
 | alloc k z=>
   obtain ⟨rfl,rfl,rfl⟩:=fM h
   exact ⟨rfl,fun sh'=>by simp [exec]⟩
 | box k s=>
   obtain ⟨v,rfl,rfl,h1,h2,rfl⟩:=iG h
   exact ⟨rfl,fun sh'=>by simp only [exec];rw [if_pos ⟨h1,h2⟩]⟩
 | append s b=>
   obtain ⟨s,x,y,ts,rfl,h1,rfl⟩:=gr h
   exact ⟨rfl,fun sh'=>by simp [exec,h1]⟩
 | di s b ag=>simp [AK.e6] at ht
 | d9 s b=>
   obtain ⟨s,x,e,xs,p,rfl,h0,h1,rfl⟩:=fl h
   exact ⟨rfl,fun sh'=>by simp [exec,h0,h1]⟩
 | ft s z=>simp [AK.e6] at ht
 | ij s=>simp [AK.e6] at ht
 | clone s b=>
   obtain ⟨x,y,ts,rfl,h1,rfl⟩:=ju h
   exact ⟨rfl,fun sh'=>by simp [exec,h1]⟩
 | aA g=>
   simp only [exec] at h ⊢
   split at h
   · rename_i cd hp
     simp only [Option.map_eq_some_iff] at h
     obtain ⟨rs,h1,rfl⟩:=h
     exact ⟨rfl,fun sh'=>by simp [h1]⟩
   · simp at h
 | gG g=>
   simp only [exec] at h ⊢
   split at h
   · rename_i cd hp
     split at h
     · rename_i rs ts1 h1
       cases h
       exact ⟨rfl,fun sh'=>by simp [h1]⟩
     · simp at h
   · simp at h
 | _=>simp [AK.e6] at ht
theorem D2 {op:AK} {vals:List AV} {cells:Option (List AV)} {sh:Sh} {aa:au} {r:Out} (ht:op.d4=false) (h:exec orc op vals cells sh aa=some r) :
   r.aa=aa∧∀ts,exec orc op vals cells sh ts=some { r with aa:=ts }:=by
 cases op with
 | v vo=>
   simp only [exec,Option.map_eq_some_iff] at h ⊢
   obtain ⟨x,h1,rfl⟩:=h
   exact ⟨rfl,fun ts=>⟨x,h1,rfl⟩⟩
 | cD k o s ag=>
   obtain ⟨cs,x,rfl,rfl,hx,rfl⟩:=eP h
   exact ⟨rfl,fun ts=>by simp [exec,hx]⟩
 | ee k o s=>
   obtain ⟨cs,v,rfl,rfl,h1,h2,h3,rfl⟩:=eX h
   exact ⟨rfl,fun ts=>by simp [exec,h1,h2,h3]⟩
 | alloc k z=>
   obtain ⟨rfl,rfl,rfl⟩:=fM h
   exact ⟨rfl,fun ts=>by simp [exec]⟩
 | box k s=>
   obtain ⟨v,rfl,rfl,h1,h2,rfl⟩:=iG h
   exact ⟨rfl,fun ts=>by simp only [exec];rw [if_pos ⟨h1,h2⟩]⟩
 | append s b=>simp [AK.d4] at ht
 | di s b ag=>simp [AK.d4] at ht
 | d9 s b=>simp [AK.d4] at ht
 | clone s b=>simp [AK.d4] at ht
 | ft s z=>
   obtain ⟨x,sh',rfl,h1,rfl⟩:=lf h
   exact ⟨rfl,fun ts=>by simp [exec,h1]⟩
 | ij s=>
   obtain ⟨x,y,xs,k,sh',rfl,h0,h1,rfl⟩:=gY h
   exact ⟨rfl,fun ts=>by simp [exec,h0,h1]⟩
 | jN=>
   obtain ⟨rfl,rfl⟩:=gX h
   exact ⟨rfl,fun ts=>by simp [exec]⟩
 | gF c ok z=>
   obtain ⟨s,k,kvs,r,rfl,h1,h2,rfl⟩:=fQ h
   exact ⟨rfl,fun ts=>by simp [exec,h1,h2]⟩
 | lX c=>
   obtain ⟨s,k,v,kvs,p,kvs',rfl,h1,h2,h3,rfl⟩:=iY h
   exact ⟨rfl,fun ts=>by simp [exec,h1,h2,h3]⟩
 | aA g=>
   simp only [exec] at h ⊢
   split at h
   · rename_i cd hp
     simp only [Option.map_eq_some_iff] at h
     obtain ⟨rs,h1,rfl⟩:=h
     exact ⟨rfl,fun ts=>by simp [h1]⟩
   · simp at h
 | eK g=>
   simp only [exec] at h ⊢
   split at h
   · rename_i cd hp
     simp only [Option.map_eq_some_iff] at h
     obtain ⟨rs,h1,rfl⟩:=h
     exact ⟨rfl,fun ts=>by simp [h1]⟩
   · simp at h
 | az g own=>simp [AK.d4] at ht
 | gG g=>simp [AK.d4] at ht
 | gf=>simp [AK.d4] at ht
 | b_=>simp [AK.d4] at ht
 | aJ s ag=>
   obtain ⟨p,x,rfl,rfl,hor⟩:=jt h
   refine ⟨rfl,fun ts=>?_⟩
   rcases hor with ⟨cs,rfl,hx⟩ | ⟨b,off,cs,rfl,hcs,hm,hx⟩
   · simp [exec,hx]
   · simp [exec,hcs,hm,hx]
 | dE s=>
   obtain ⟨b,off,v,cs,rfl,hcs,h0,h1,h2,h3,h4,rfl⟩:=gp h
   refine ⟨rfl,fun ts=>?_⟩
   simp only [exec,hcs]
   rw [if_pos ⟨h0,h1,h2,h3,h4⟩]
 | kr s=>
   obtain ⟨v,rfl,h1,h2,h3,rfl⟩:=iX h
   refine ⟨rfl,fun ts=>?_⟩
   simp only [exec]
   rw [if_pos ⟨h1,h2,h3⟩]
 | gz z=>
   obtain ⟨rfl,rfl⟩:=gq h
   exact ⟨rfl,fun ts=>by simp [exec]⟩
 | iw s b ag z=>
   obtain ⟨k,k',n,rfl,h1,h2,h3,h4,rfl⟩:=gW h
   exact ⟨rfl,fun ts=>by simp [exec,h1,h2,h3,h4]⟩
theorem D3 {op:AK} {vals:List AV} {cells:Option (List AV)} {sh:Sh} {aa:au} {r:Out} (ht:op.fc=false) (hk:op.key≠none) (h:exec orc op vals cells sh aa=some r):r.cells=none:=by
 cases op with
 | cD k o s ag=>
   obtain ⟨cs,x,rfl,rfl,hx,rfl⟩:=eP h
   rfl
 | ee k o s=>simp [AK.fc] at ht
 | alloc k z=>simp [AK.fc] at ht
 | box k s=>simp [AK.fc] at ht
 | _=>simp [AK.key] at hk
theorem np {sz:Nat} {ag:Bool} {vals:List AV} {cells:Option (List AV)} {sh:Sh} {aa:au} {r:Out} (h:exec orc (.aJ sz ag) vals cells sh aa=some r):r.sh=sh:=by
 obtain ⟨p,x,rfl,rfl,_⟩:=jt h
 rfl
theorem nq {c:CK} {ok:Bool} {z:PV} {vals:List AV} {cells:Option (List AV)} {sh:Sh} {aa:au} {r:Out} (h:exec orc (.gF c ok z) vals cells sh aa=some r):r.sh=sh:=by
 obtain ⟨s,k,kvs,r,rfl,_,_,rfl⟩:=fQ h
 rfl
theorem my {vals:List AV} {cells:Option (List AV)} {sh:Sh} {aa:au} {r:Out} (h:exec orc .b_ vals cells sh aa=some r):r.sh=sh:=by
 cases vals with
 | nil=>simp [exec] at h
 | cons f vals=>
   cases f with
   | fn g cap=>
     simp only [exec,Option.bind_eq_some_iff] at h
     obtain ⟨⟨v,sh',ts⟩,_,h2⟩:=h
     simp only [F0,Option.ite_none_right_eq_some,Option.some.injEq] at h2
     rw [←h2.2]
   | _=>simp [exec] at h
theorem mz {o:dd} {E:Nat→Option AV} {M:Nat→Option (List AV)} {sh:Sh} {aa:au} {r:Out} (ht:o.op.e6=false) (h:cW orc o E M sh aa=some r) :
   r.sh=sh∧∀sh',cW orc o E M sh' aa=some { r with sh:=sh' }:=by
 unfold cW at *
 split at h
 · simp at h
 · simp at h;subst h;exact ⟨rfl,fun _=>rfl⟩
 · split at h
   · simp at h
   · exact D1 ht h
theorem qF {o:dd} {E:Nat→Option AV} {M:Nat→Option (List AV)} {sh:Sh} {aa:au} {r:Out} (ht:o.op.nD=true) (h:cW orc o E M sh aa=some r):r.sh=sh:=by
 unfold cW at *
 split at h
 · simp at h
 · simp at h;subst h;rfl
 · split at h
   · simp at h
   · rename_i vals _
     cases ho:o.op with
     | aJ sz ag=>
       rw [ho] at h
       have hl:=np h
       exact hl
     | gF c ok z=>
       rw [ho] at h
       exact nq h
     | b_=>
       rw [ho] at h
       exact my h
     | _=>rw [ho] at ht;simp [AK.nD] at ht
theorem kh {o:dd} {E:Nat→Option AV} {M:Nat→Option (List AV)} {sh:Sh} {aa:au} {r:Out} (ht:o.op.d4=false) (h:cW orc o E M sh aa=some r) :
   r.aa=aa∧∀ts,cW orc o E M sh ts=some { r with aa:=ts }:=by
 unfold cW at *
 split at h
 · simp at h
 · simp at h;subst h;exact ⟨rfl,fun _=>rfl⟩
 · split at h
   · simp at h
   · exact D2 ht h
theorem ki {o:dd} {E:Nat→Option AV} {M:Nat→Option (List AV)} {sh:Sh} {aa:au} {r:Out} (ht:o.op.fc=false) (hk:o.op.key≠none) (h:cW orc o E M sh aa=some r):r.cells=none:=by
 unfold cW at h
 split at h
 · simp at h
 · simp at h;subst h;rfl
 · split at h
   · simp at h
   · exact D3 ht hk h
structure gK (x y:St):Prop where
 env:∀t,look x.env t=look y.env t
 mem:∀t,look x.mem t=look y.mem t
 sh:x.sh=y.sh
 aa:x.aa=y.aa
theorem gK.refl (x:St):gK x x:=⟨fun _=>rfl,fun _=>rfl,rfl,rfl⟩
theorem gK.symm {x y:St} (h:gK x y):gK y x:=⟨fun t=>(h.env t).symm,fun t=>(h.mem t).symm,h.sh.symm,h.aa.symm⟩
theorem gK.trans {x y z:St} (h:gK x y) (k:gK y z):gK x z:=⟨fun t=>(h.env t).trans (k.env t),fun t=>(h.mem t).trans (k.mem t),h.sh.trans k.sh,h.aa.trans k.aa⟩
theorem i6 (env:List (Nat×AV)) (d:Option Nat) (v:AV) (t:Nat):look (ep env d v) t=if d=some t then some v else look env t:=by
 cases d with
 | none=>simp [ep]
 | some d=>
   simp only [ep,Option.some.injEq]
   by_cases h:d=t
   · subst h;rw [if_pos rfl,bC]
   · rw [if_neg h,bs _ _ _ _ h]
theorem i7 (mem:List (Nat×List AV)) (k:Option Nat) (c:Option (List AV)) (t:Nat):look (dZ mem k c) t=if k=some t then (match c with | some cs=>some cs | none=>look mem t) else look mem t:=by
 cases c with
 | none=>rw [dV];split<;>rfl
 | some cs=>
   cases k with
   | none=>simp [dZ]
   | some k=>
     simp only [dZ,Option.some.injEq]
     by_cases h:k=t
     · subst h;rw [if_pos rfl,bC]
     · rw [if_neg h,bs _ _ _ _ h]
theorem xa {o:dd} {x y x':St} (h:gK x y) (he:dp orc o x=some x'):∃y',dp orc o y=some y'∧gK x' y':=by
 rw [gJ,Option.map_eq_some_iff] at he
 obtain ⟨r,hr,rfl⟩:=he
 have:cW orc o (look y.env) (look y.mem) y.sh y.aa=some r:=by
   rw [←h.sh,←h.aa,←hr]
   exact (hZ (fun t _=>h.env t) (fun t _=>h.mem t)).symm
 refine ⟨{ env:=ep y.env o.dst r.val,mem:=dZ y.mem o.op.key r.cells,sh:=r.sh,aa:=r.aa },by rw [gJ,this];rfl,⟨fun t=>?_,fun t=>?_,rfl,rfl⟩⟩
 · simp only [i6,h.env]
 · simp only [i7,h.mem]
end
end Go.Ab
