import Derived.Test.YthcoecdbgdhihaaGreatDoorAbRegion
/-
  A region that draws its order: whatever order is picked, the end is that of the text's order.
-/
set_option linter.unusedVariables false
set_option linter.unusedSimpArgs false
set_option linter.unnecessarySimpa false
set_option maxRecDepth 100000
set_option maxHeartbeats 8000000
namespace Go.Ab
section
variable {orc:ek}
def F4 (E:Nat→Option AV):eU→Option AV
 | .t n=>E n
 | .c v=>some v
def jQ (E:Nat→Option AV):List eU→Option (List AV)
 | []=>some []
 | x::r=>match F4 E x,jQ E r with
   | some v,some vs=>some (v::vs)
   | _,_=>none
def lR (E:Nat→Option AV):Option (Nat×Bool)→Option Bool
 | none=>some true
 | some (t,b)=>match E t with
   | some (.pv (.bool c))=>some (c == b)
   | some .un=>some false
   | _=>none
def di (orc:ek) (o:dq) (E:Nat→Option AV) (M:Nat→Option (List AV)) (sh:Sh) (ah:aN):Option Out:=
 match lR E o.guard with
 | none=>none
 | some false=>some ⟨.un,none,sh,ah⟩
 | some true=>match jQ E o.args with
   | none=>none
   | some vals=>exec orc o.op vals (o.op.key.bind M) sh ah
theorem qY (env:List (Nat×AV)):∀l,ef env l=jQ (look env) l
 | []=>rfl
 | x::l=>by
   have:gT env x=F4 (look env) x:=by cases x<;>rfl
   simp only [ef,jQ,this,qY env l]
   rfl
theorem et (o:dq) (st:St):d_ orc o st=(di orc o (look st.env) (look st.mem) st.sh st.ah).map
   fun r=>{ env:=fJ st.env o.dst r.val,mem:=eV st.mem o.op.key r.cells,sh:=r.sh,ah:=r.ah }:=by
 unfold d_ di
 have hw:fp st.env o.guard=lR (look st.env) o.guard:=by
   cases o.guard with
   | none=>rfl
   | some g=>rfl
 rw [hw]
 cases lR (look st.env) o.guard with
 | none=>rfl
 | some b=>cases b with
   | false=>simp [fu]
   | true=>
     simp only [qY]
     cases jQ (look st.env) o.args with
     | none=>rfl
     | some vals=>
       simp only
       cases exec orc o.op vals (o.op.key.bind (look st.mem)) st.sh st.ah<;>rfl
theorem lr {E E':Nat→Option AV}:∀{l:List eU},(∀t∈l.filterMap (fun | .t n=>some n | _=>none),E t=E' t)→jQ E l=jQ E' l
 | [],_=>rfl
 | .c v::l,h=>by
   simp only [jQ,F4]
   rw [lr (l:=l) (fun t ht=>h t (by simpa using ht))]
 | .t n::l,h=>by
   simp only [jQ,F4]
   rw [lr (l:=l) (fun t ht=>h t (by simp only [List.filterMap_cons,List.mem_cons];exact .inr ht)),h n (by simp)]
theorem gK {o:dq} {E E':Nat→Option AV} {M M':Nat→Option (List AV)} {sh:Sh} {ah:aN} (hE:∀t∈o.looks,E t=E' t) (hM:∀k,o.op.key=some k→M k=M' k) :
   di orc o E M sh ah=di orc o E' M' sh ah:=by
 have h1:lR E o.guard=lR E' o.guard:=by
   cases hg:o.guard with
   | none=>rfl
   | some g=>
     obtain ⟨t,b⟩:=g
     simp only [lR]
     rw [hE t (by simp [dq.looks,hg])]
 have h2:jQ E o.args=jQ E' o.args:=lr fun t ht=>hE t (by simp only [dq.looks,List.mem_append];exact .inl ht)
 have h3:o.op.key.bind M=o.op.key.bind M':=by
   cases hk:o.op.key with
   | none=>rfl
   | some k=>exact hM k hk
 unfold di
 rw [h1,h2,h3]
theorem LI {op:AK} {vals:List AV} {cells:Option (List AV)} {sh:Sh} {ah:aN} {r:Out} (ht:op.iC=false) (h:exec orc op vals cells sh ah=some r) :
   r.sh=sh∧∀sh',exec orc op vals cells sh' ah=some { r with sh:=sh' }:=by
 cases op with
 | v vo=>
   simp only [exec,Option.map_eq_some_iff] at h ⊢
   obtain ⟨x,h1,rfl⟩:=h
   exact ⟨rfl,fun sh'=>⟨x,h1,rfl⟩⟩
 | aS k o s ag=>
   obtain ⟨cs,x,rfl,rfl,hx,rfl⟩:=hU h
   exact ⟨rfl,fun sh'=>by simp [exec,hx]⟩
 | cR k o s=>
   obtain ⟨cs,v,rfl,rfl,h1,h2,h3,rfl⟩:=iu h
   exact ⟨rfl,fun sh'=>by simp [exec,h1,h2,h3]⟩
 | alloc k z=>
   obtain ⟨rfl,rfl,rfl⟩:=i_ h
   exact ⟨rfl,fun sh'=>by simp [exec]⟩
 | box k s=>
   obtain ⟨v,rfl,rfl,h1,h2,rfl⟩:=lg h
   exact ⟨rfl,fun sh'=>by simp only [exec];rw [if_pos ⟨h1,h2⟩]⟩
 | iU d s b z=>
   obtain ⟨k,k',n,rfl,h1,h2,h3,h4,rfl,rfl⟩:=ja h
   exact ⟨rfl,fun sh'=>by simp [exec,h1,h2,h3,h4]⟩
 | append s b=>
   obtain ⟨s,x,y,ts,rfl,h1,rfl⟩:=js h
   exact ⟨rfl,fun sh'=>by simp [exec,h1]⟩
 | db s b ag=>simp [AK.iC] at ht
 | m5 s b=>first | (simp [exec] at h;done) | (simp [exec] at e;done) | (simp [exec];done)
 | iA s z=>simp [AK.iC] at ht
 | jk s=>simp [AK.iC] at ht
 | clone s b=>
   obtain ⟨x,y,ts,rfl,h1,rfl⟩:=mC h
   exact ⟨rfl,fun sh'=>by simp [exec,h1]⟩
 | aq g=>
   simp only [exec] at h ⊢
   split at h
   · rename_i dt hp
     simp only [Option.map_eq_some_iff] at h
     obtain ⟨rs,h1,rfl⟩:=h
     exact ⟨rfl,fun sh'=>by simp [h1]⟩
   · simp at h
 | kT g=>
   simp only [exec] at h ⊢
   split at h
   · rename_i dt hp
     split at h
     · rename_i rs ts1 h1
       cases h
       exact ⟨rfl,fun sh'=>by simp [h1]⟩
     · simp at h
   · simp at h
 | _=>simp [AK.iC] at ht
theorem LJ {op:AK} {vals:List AV} {cells:Option (List AV)} {sh:Sh} {ah:aN} {r:Out} (ht:op.gm=false) (h:exec orc op vals cells sh ah=some r) :
   r.ah=ah∧∀ts,exec orc op vals cells sh ts=some { r with ah:=ts }:=by
 cases op with
 | v vo=>
   simp only [exec,Option.map_eq_some_iff] at h ⊢
   obtain ⟨x,h1,rfl⟩:=h
   exact ⟨rfl,fun ts=>⟨x,h1,rfl⟩⟩
 | aS k o s ag=>
   obtain ⟨cs,x,rfl,rfl,hx,rfl⟩:=hU h
   exact ⟨rfl,fun ts=>by simp [exec,hx]⟩
 | cR k o s=>
   obtain ⟨cs,v,rfl,rfl,h1,h2,h3,rfl⟩:=iu h
   exact ⟨rfl,fun ts=>by simp [exec,h1,h2,h3]⟩
 | alloc k z=>
   obtain ⟨rfl,rfl,rfl⟩:=i_ h
   exact ⟨rfl,fun ts=>by simp [exec]⟩
 | box k s=>
   obtain ⟨v,rfl,rfl,h1,h2,rfl⟩:=lg h
   exact ⟨rfl,fun ts=>by simp only [exec];rw [if_pos ⟨h1,h2⟩]⟩
 | iU d s b z=>
   obtain ⟨k,k',n,rfl,h1,h2,h3,h4,rfl,rfl⟩:=ja h
   exact ⟨rfl,fun ts=>by simp [exec,h1,h2,h3,h4]⟩
 | append s b=>simp [AK.gm] at ht
 | db s b ag=>simp [AK.gm] at ht
 | m5 s b=>first | (simp [exec] at h;done) | (simp [exec] at e;done) | (simp [exec];done)
 | clone s b=>simp [AK.gm] at ht
 | gF s b ag=>
   rcases vals with _ | ⟨x,_ | ⟨_,_⟩⟩
   · simp [exec] at h
   · simp only [exec,fH] at h ⊢
     split at h
     · rename_i xs hx
       split at h
       · rename_i hh
         simp only [Option.map_map,Option.map_eq_some_iff] at h
         obtain ⟨⟨y,sh'⟩,h1,rfl⟩:=h
         refine ⟨rfl,fun ts=>?_⟩
         simp [hx,hh,h1]
       · simp at h
     · simp at h
   · simp [exec] at h
 | iA s z=>
   obtain ⟨x,sh',rfl,h1,rfl⟩:=pb h
   exact ⟨rfl,fun ts=>by simp [exec,h1]⟩
 | jk s=>
   obtain ⟨x,y,xs,k,sh',rfl,h0,h1,rfl⟩:=ka h
   exact ⟨rfl,fun ts=>by simp [exec,h0,h1]⟩
 | BT=>first | (simp [exec] at h;done) | (simp [exec] at e;done) | (simp [exec];done)
 | qu c ok z=>first | (simp [exec] at h;done) | (simp [exec] at e;done) | (simp [exec];done)
 | IP c=>first | (simp [exec] at h;done) | (simp [exec] at e;done) | (simp [exec];done)
 | aq g=>
   simp only [exec] at h ⊢
   split at h
   · rename_i dt hp
     simp only [Option.map_eq_some_iff] at h
     obtain ⟨rs,h1,rfl⟩:=h
     exact ⟨rfl,fun ts=>by simp [h1]⟩
   · simp at h
 | dK g=>
   simp only [exec] at h ⊢
   split at h
   · rename_i dt hp
     simp only [Option.map_eq_some_iff] at h
     obtain ⟨rs,h1,rfl⟩:=h
     exact ⟨rfl,fun ts=>by simp [h1]⟩
   · simp at h
 | aI g own=>simp [AK.gm] at ht
 | kT g=>simp [AK.gm] at ht
 | fU=>simp [AK.gm] at ht
 | dw=>simp [AK.gm] at ht
 | bf s ag=>
   obtain ⟨p,x,rfl,rfl,hor⟩:=j8 h
   refine ⟨rfl,fun ts=>?_⟩
   rcases hor with ⟨cs,rfl,hx⟩ | ⟨b,off,cs,rfl,hcs,hm,hx⟩
   · simp [exec,hx]
   · simp [exec,hcs,hm,hx]
 | cb s=>
   obtain ⟨b,off,v,cs,rfl,hcs,h0,h1,h2,h3,h4,rfl⟩:=iv h
   refine ⟨rfl,fun ts=>?_⟩
   simp only [exec,hcs]
   rw [if_pos ⟨h0,h1,h2,h3,h4⟩]
 | ux s=>first | (simp [exec] at h;done) | (simp [exec] at e;done) | (simp [exec];done)
 | me s=>
   obtain ⟨v,rfl,h1,h2,h3,rfl⟩:=lO h
   refine ⟨rfl,fun ts=>?_⟩
   simp only [exec]
   rw [if_pos ⟨h1,h2,h3⟩]
 | IN s=>first | (simp [exec] at h;done) | (simp [exec] at e;done) | (simp [exec];done)
 | iT z=>
   obtain ⟨rfl,rfl⟩:=jr h
   exact ⟨rfl,fun ts=>by simp [exec]⟩
 | ik s b ag z=>
   obtain ⟨k,k',n,rfl,h1,h2,h3,h4,rfl⟩:=j_ h
   exact ⟨rfl,fun ts=>by simp [exec,h1,h2,h3,h4]⟩
theorem LK {op:AK} {vals:List AV} {cells:Option (List AV)} {sh:Sh} {ah:aN} {r:Out} (ht:op.ic=false) (hk:op.key≠none) (h:exec orc op vals cells sh ah=some r):r.cells=none:=by
 cases op with
 | aS k o s ag=>
   obtain ⟨cs,x,rfl,rfl,hx,rfl⟩:=hU h
   rfl
 | cR k o s=>simp [AK.ic] at ht
 | alloc k z=>simp [AK.ic] at ht
 | box k s=>simp [AK.ic] at ht
 | iU d s b z=>simp [AK.ic] at ht
 | _=>simp [AK.key] at hk
theorem sP {sz:Nat} {ag:Bool} {vals:List AV} {cells:Option (List AV)} {sh:Sh} {ah:aN} {r:Out} (h:exec orc (.bf sz ag) vals cells sh ah=some r):r.sh=sh:=by
 obtain ⟨p,x,rfl,rfl,_⟩:=j8 h
 rfl
theorem sQ {c:CK} {ok:Bool} {z:PV} {vals:List AV} {cells:Option (List AV)} {sh:Sh} {ah:aN} {r:Out} (h:exec orc (.qu c ok z) vals cells sh ah=some r):r.sh=sh:=by simp [exec] at h
theorem qZ {vals:List AV} {cells:Option (List AV)} {sh:Sh} {ah:aN} {r:Out} (h:exec orc .dw vals cells sh ah=some r):r.sh=sh:=by
 cases vals with
 | nil=>simp [exec] at h
 | cons f vals=>
   cases f with
   | fn g cap=>
     simp only [exec,Option.bind_eq_some_iff] at h
     obtain ⟨⟨v,sh',ts⟩,_,h2⟩:=h
     simp only [Pv,Option.ite_none_right_eq_some,Option.some.injEq] at h2
     rw [←h2.2]
   | _=>simp [exec] at h
theorem q8 {o:dq} {E:Nat→Option AV} {M:Nat→Option (List AV)} {sh:Sh} {ah:aN} {r:Out} (ht:o.op.iC=false) (h:di orc o E M sh ah=some r) :
   r.sh=sh∧∀sh',di orc o E M sh' ah=some { r with sh:=sh' }:=by
 unfold di at *
 split at h
 · simp at h
 · simp at h;subst h;exact ⟨rfl,fun _=>rfl⟩
 · split at h
   · simp at h
   · exact LI ht h
theorem w7 {o:dq} {E:Nat→Option AV} {M:Nat→Option (List AV)} {sh:Sh} {ah:aN} {r:Out} (ht:o.op.th=true) (h:di orc o E M sh ah=some r):r.sh=sh:=by
 unfold di at *
 split at h
 · simp at h
 · simp at h;subst h;rfl
 · split at h
   · simp at h
   · rename_i vals _
     cases ho:o.op with
     | bf sz ag=>
       rw [ho] at h
       have hl:=sP h
       exact hl
     | qu c ok z=>
       rw [ho] at h
       exact sQ h
     | dw=>
       rw [ho] at h
       exact qZ h
     | _=>rw [ho] at ht;simp [AK.th] at ht
theorem nu {o:dq} {E:Nat→Option AV} {M:Nat→Option (List AV)} {sh:Sh} {ah:aN} {r:Out} (ht:o.op.gm=false) (h:di orc o E M sh ah=some r) :
   r.ah=ah∧∀ts,di orc o E M sh ts=some { r with ah:=ts }:=by
 unfold di at *
 split at h
 · simp at h
 · simp at h;subst h;exact ⟨rfl,fun _=>rfl⟩
 · split at h
   · simp at h
   · exact LJ ht h
theorem nv {o:dq} {E:Nat→Option AV} {M:Nat→Option (List AV)} {sh:Sh} {ah:aN} {r:Out} (ht:o.op.ic=false) (hk:o.op.key≠none) (h:di orc o E M sh ah=some r):r.cells=none:=by
 unfold di at h
 split at h
 · simp at h
 · simp at h;subst h;rfl
 · split at h
   · simp at h
   · exact LK ht hk h
structure jA (x y:St):Prop where
 env:∀t,look x.env t=look y.env t
 mem:∀t,look x.mem t=look y.mem t
 sh:x.sh=y.sh
 ah:x.ah=y.ah
theorem jA.refl (x:St):jA x x:=⟨fun _=>rfl,fun _=>rfl,rfl,rfl⟩
theorem jA.symm {x y:St} (h:jA x y):jA y x:=⟨fun t=>(h.env t).symm,fun t=>(h.mem t).symm,h.sh.symm,h.ah.symm⟩
theorem jA.trans {x y z:St} (h:jA x y) (k:jA y z):jA x z:=⟨fun t=>(h.env t).trans (k.env t),fun t=>(h.mem t).trans (k.mem t),h.sh.trans k.sh,h.ah.trans k.ah⟩
theorem eL (env:List (Nat×AV)) (d:Option Nat) (v:AV) (t:Nat):look (fJ env d v) t=if d=some t then some v else look env t:=by
 cases d with
 | none=>simp [fJ]
 | some d=>
   simp only [fJ,Option.some.injEq]
   by_cases h:d=t
   · subst h;rw [if_pos rfl,bV]
   · rw [if_neg h,cq _ _ _ _ h]
theorem lS (mem:List (Nat×List AV)) (k:Option Nat) (c:Option (List AV)) (t:Nat):look (eV mem k c) t=if k=some t then (match c with | some cs=>some cs | none=>look mem t) else look mem t:=by
 cases c with
 | none=>rw [fu];split<;>rfl
 | some cs=>
   cases k with
   | none=>simp [eV]
   | some k=>
     simp only [eV,Option.some.injEq]
     by_cases h:k=t
     · subst h;rw [if_pos rfl,bV]
     · rw [if_neg h,cq _ _ _ _ h]
theorem Dd {o:dq} {x y x':St} (h:jA x y) (he:d_ orc o x=some x'):∃y',d_ orc o y=some y'∧jA x' y':=by
 rw [et,Option.map_eq_some_iff] at he
 obtain ⟨r,hr,rfl⟩:=he
 have:di orc o (look y.env) (look y.mem) y.sh y.ah=some r:=by
   rw [←h.sh,←h.ah,←hr]
   exact (gK (fun t _=>h.env t) (fun t _=>h.mem t)).symm
 refine ⟨{ env:=fJ y.env o.dst r.val,mem:=eV y.mem o.op.key r.cells,sh:=r.sh,ah:=r.ah },by rw [et,this];rfl,⟨fun t=>?_,fun t=>?_,rfl,rfl⟩⟩
 · simp only [eL,h.env]
 · simp only [lS,h.mem]
end
end Go.Ab
