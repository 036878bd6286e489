import Derived.Test.YtfhhognolpjikaaGreatAbRegion
/-
  A region that draws its order: whatever order is picked, the end is that of the text's order.
-/
set_option linter.unusedVariables false
set_option linter.unusedSimpArgs false
set_option maxRecDepth 100000
set_option maxHeartbeats 8000000
namespace Go.Ab
section
variable {orc:eI}
def Kb (E:Nat→Option AV):eH→Option AV
 | .t n=>E n
 | .c v=>some v
def kD (E:Nat→Option AV):List eH→Option (List AV)
 | []=>some []
 | x::r=>match Kb E x,kD E r with
   | some v,some vs=>some (v::vs)
   | _,_=>none
def lg (E:Nat→Option AV):Option (Nat×Bool)→Option Bool
 | none=>some true
 | some (t,b)=>match E t with
   | some (.pv (.bool c))=>some (c == b)
   | some .un=>some false
   | _=>none
def dL (orc:eI) (o:dV) (E:Nat→Option AV) (M:Nat→Option (List AV)) (sh:Sh) (ah:aL):Option Out:=
 match lg E o.guard with
 | none=>none
 | some false=>some ⟨.un,none,sh,ah⟩
 | some true=>match kD E o.args with
   | none=>none
   | some vals=>exec orc o.op vals (o.op.key.bind M) sh ah
theorem qv (env:List (Nat×AV)):∀l,dX env l=kD (look env) l
 | []=>rfl
 | x::l=>by
   have:gG env x=Kb (look env) x:=by cases x<;>rfl
   simp only [dX,kD,this,qv env l]
   rfl
theorem jn (o:dV) (st:St):eo orc o st=(dL orc o (look st.env) (look st.mem) st.sh st.ah).map
   fun r=>{ env:=fW st.env o.dst r.val,mem:=fh st.mem o.op.key r.cells,sh:=r.sh,ah:=r.ah }:=by
 unfold eo dL
 have hw:eX st.env o.guard=lg (look st.env) o.guard:=by
   cases o.guard with
   | none=>rfl
   | some g=>rfl
 rw [hw]
 cases lg (look st.env) o.guard with
 | none=>rfl
 | some b=>cases b with
   | false=>simp [e_]
   | true=>
     simp only [qv]
     cases kD (look st.env) o.args with
     | none=>rfl
     | some vals=>
       simp only
       cases exec orc o.op vals (o.op.key.bind (look st.mem)) st.sh st.ah<;>rfl
theorem kE {E E':Nat→Option AV}:∀{l:List eH},(∀t∈l.filterMap (fun | .t n=>some n | _=>none),E t=E' t)→kD E l=kD E' l
 | [],_=>rfl
 | .c v::l,h=>by
   simp only [kD,Kb]
   rw [kE (l:=l) (fun t ht=>h t (by simpa using ht))]
 | .t n::l,h=>by
   simp only [kD,Kb]
   rw [kE (l:=l) (fun t ht=>h t (by simp only [List.filterMap_cons,List.mem_cons];exact .inr ht)),h n (by simp)]
theorem jO {o:dV} {E E':Nat→Option AV} {M M':Nat→Option (List AV)} {sh:Sh} {ah:aL} (hE:∀t∈o.looks,E t=E' t) (hM:∀k,o.op.key=some k→M k=M' k) :
   dL orc o E M sh ah=dL orc o E' M' sh ah:=by
 have h1:lg E o.guard=lg E' o.guard:=by
   cases hg:o.guard with
   | none=>rfl
   | some g=>
     obtain ⟨t,b⟩:=g
     simp only [lg]
     rw [hE t (by simp [dV.looks,hg])]
 have h2:kD E o.args=kD E' o.args:=kE fun t ht=>hE t (by simp only [dV.looks,List.mem_append];exact .inl ht)
 have h3:o.op.key.bind M=o.op.key.bind M':=by
   cases hk:o.op.key with
   | none=>rfl
   | some k=>exact hM k hk
 unfold dL
 rw [h1,h2,h3]
theorem MX {op:AK} {vals:List AV} {cells:Option (List AV)} {sh:Sh} {ah:aL} {r:Out} (ht:op.iB=false) (h:exec orc op vals cells sh ah=some r) :
   r.sh=sh∧∀sh',exec orc op vals cells sh' ah=some { r with sh:=sh' }:=by
 cases op with
 | v vo=>
   simp only [exec,Option.map_eq_some_iff] at h ⊢
   obtain ⟨x,h1,rfl⟩:=h
   exact ⟨rfl,fun sh'=>⟨x,h1,rfl⟩⟩
 | bj k o s ag=>
   obtain ⟨cs,x,rfl,rfl,hx,rfl⟩:=gN h
   exact ⟨rfl,fun sh'=>by simp [exec,hx]⟩
 | cT k o s=>
   obtain ⟨cs,v,rfl,rfl,h1,h2,h3,rfl⟩:=gW h
   exact ⟨rfl,fun sh'=>by simp [exec,h1,h2,h3]⟩
 | alloc k z=>
   obtain ⟨rfl,rfl,rfl⟩:=iI h
   exact ⟨rfl,fun sh'=>by simp [exec]⟩
 | box k s=>
   obtain ⟨v,rfl,rfl,h1,h2,rfl⟩:=kx h
   exact ⟨rfl,fun sh'=>by simp only [exec];rw [if_pos ⟨h1,h2⟩]⟩
 | append s b=>
   obtain ⟨s,x,y,ts,rfl,h1,rfl⟩:=i5 h
   exact ⟨rfl,fun sh'=>by simp [exec,h1]⟩
 | c_ s b ag=>simp [AK.iB] at ht
 | fR s z=>simp [AK.iB] at ht
 | clone s b=>
   obtain ⟨x,y,ts,rfl,h1,rfl⟩:=lZ h
   exact ⟨rfl,fun sh'=>by simp [exec,h1]⟩
 | aB g=>
   simp only [exec] at h ⊢
   split at h
   · rename_i dt hp
     simp only [Option.map_eq_some_iff] at h
     obtain ⟨rs,h1,rfl⟩:=h
     exact ⟨rfl,fun sh'=>by simp [h1]⟩
   · simp at h
 | jh g=>
   simp only [exec] at h ⊢
   split at h
   · rename_i dt hp
     split at h
     · rename_i rs ts1 h1
       cases h
       exact ⟨rfl,fun sh'=>by simp [h1]⟩
     · simp at h
   · simp at h
 | _=>simp [AK.iB] at ht
theorem MY {op:AK} {vals:List AV} {cells:Option (List AV)} {sh:Sh} {ah:aL} {r:Out} (ht:op.gf=false) (h:exec orc op vals cells sh ah=some r) :
   r.ah=ah∧∀ts,exec orc op vals cells sh ts=some { r with ah:=ts }:=by
 cases op with
 | v vo=>
   simp only [exec,Option.map_eq_some_iff] at h ⊢
   obtain ⟨x,h1,rfl⟩:=h
   exact ⟨rfl,fun ts=>⟨x,h1,rfl⟩⟩
 | bj k o s ag=>
   obtain ⟨cs,x,rfl,rfl,hx,rfl⟩:=gN h
   exact ⟨rfl,fun ts=>by simp [exec,hx]⟩
 | cT k o s=>
   obtain ⟨cs,v,rfl,rfl,h1,h2,h3,rfl⟩:=gW h
   exact ⟨rfl,fun ts=>by simp [exec,h1,h2,h3]⟩
 | alloc k z=>
   obtain ⟨rfl,rfl,rfl⟩:=iI h
   exact ⟨rfl,fun ts=>by simp [exec]⟩
 | box k s=>
   obtain ⟨v,rfl,rfl,h1,h2,rfl⟩:=kx h
   exact ⟨rfl,fun ts=>by simp only [exec];rw [if_pos ⟨h1,h2⟩]⟩
 | append s b=>simp [AK.gf] at ht
 | c_ s b ag=>simp [AK.gf] at ht
 | clone s b=>simp [AK.gf] at ht
 | fR s z=>
   obtain ⟨x,sh',rfl,h1,rfl⟩:=oS h
   exact ⟨rfl,fun ts=>by simp [exec,h1]⟩
 | ki=>
   obtain ⟨rfl,rfl⟩:=jG h
   exact ⟨rfl,fun ts=>by simp [exec]⟩
 | ix c ok z=>
   obtain ⟨s,k,kvs,r,rfl,h1,h2,rfl⟩:=iJ h
   exact ⟨rfl,fun ts=>by simp [exec,h1,h2]⟩
 | mC c=>
   obtain ⟨s,k,v,kvs,p,kvs',rfl,h1,h2,h3,rfl⟩:=la h
   exact ⟨rfl,fun ts=>by simp [exec,h1,h2,h3]⟩
 | aB g=>
   simp only [exec] at h ⊢
   split at h
   · rename_i dt hp
     simp only [Option.map_eq_some_iff] at h
     obtain ⟨rs,h1,rfl⟩:=h
     exact ⟨rfl,fun ts=>by simp [h1]⟩
   · simp at h
 | dW g=>
   simp only [exec] at h ⊢
   split at h
   · rename_i dt hp
     simp only [Option.map_eq_some_iff] at h
     obtain ⟨rs,h1,rfl⟩:=h
     exact ⟨rfl,fun ts=>by simp [h1]⟩
   · simp at h
 | aI g own=>simp [AK.gf] at ht
 | jh g=>simp [AK.gf] at ht
 | eK=>simp [AK.gf] at ht
 | aZ s ag=>
   obtain ⟨p,x,rfl,rfl,hor⟩:=lY h
   refine ⟨rfl,fun ts=>?_⟩
   rcases hor with ⟨cs,rfl,hx⟩ | ⟨b,off,cs,rfl,hcs,hm,hx⟩
   · simp [exec,hx]
   · simp [exec,hcs,hm,hx]
 | cU s=>
   obtain ⟨b,off,v,cs,rfl,hcs,h0,h1,h2,h3,h4,rfl⟩:=iZ h
   refine ⟨rfl,fun ts=>?_⟩
   simp only [exec,hcs]
   rw [if_pos ⟨h0,h1,h2,h3,h4⟩]
 | lS s=>
   obtain ⟨v,rfl,h1,h2,h3,rfl⟩:=kZ h
   refine ⟨rfl,fun ts=>?_⟩
   simp only [exec]
   rw [if_pos ⟨h1,h2,h3⟩]
 | hH z=>
   obtain ⟨rfl,rfl⟩:=i4 h
   exact ⟨rfl,fun ts=>by simp [exec]⟩
 | jg s b ag z=>
   obtain ⟨k,k',n,rfl,h1,h2,h3,h4,rfl⟩:=jF h
   exact ⟨rfl,fun ts=>by simp [exec,h1,h2,h3,h4]⟩
theorem MZ {op:AK} {vals:List AV} {cells:Option (List AV)} {sh:Sh} {ah:aL} {r:Out} (ht:op.ij=false) (hk:op.key≠none) (h:exec orc op vals cells sh ah=some r):r.cells=none:=by
 cases op with
 | bj k o s ag=>
   obtain ⟨cs,x,rfl,rfl,hx,rfl⟩:=gN h
   rfl
 | cT k o s=>simp [AK.ij] at ht
 | alloc k z=>simp [AK.ij] at ht
 | box k s=>simp [AK.ij] at ht
 | _=>simp [AK.key] at hk
theorem rV {sz:Nat} {ag:Bool} {vals:List AV} {cells:Option (List AV)} {sh:Sh} {ah:aL} {r:Out} (h:exec orc (.aZ sz ag) vals cells sh ah=some r):r.sh=sh:=by
 obtain ⟨p,x,rfl,rfl,_⟩:=lY h
 rfl
theorem rW {c:CK} {ok:Bool} {z:PV} {vals:List AV} {cells:Option (List AV)} {sh:Sh} {ah:aL} {r:Out} (h:exec orc (.ix c ok z) vals cells sh ah=some r):r.sh=sh:=by
 obtain ⟨s,k,kvs,r,rfl,_,_,rfl⟩:=iJ h
 rfl
theorem qw {o:dV} {E:Nat→Option AV} {M:Nat→Option (List AV)} {sh:Sh} {ah:aL} {r:Out} (ht:o.op.iB=false) (h:dL orc o E M sh ah=some r) :
   r.sh=sh∧∀sh',dL orc o E M sh' ah=some { r with sh:=sh' }:=by
 unfold dL at *
 split at h
 · simp at h
 · simp at h;subst h;exact ⟨rfl,fun _=>rfl⟩
 · split at h
   · simp at h
   · exact MX ht h
theorem vZ {o:dV} {E:Nat→Option AV} {M:Nat→Option (List AV)} {sh:Sh} {ah:aL} {r:Out} (ht:o.op.sr=true) (h:dL orc o E M sh ah=some r):r.sh=sh:=by
 unfold dL at *
 split at h
 · simp at h
 · simp at h;subst h;rfl
 · split at h
   · simp at h
   · rename_i vals _
     cases ho:o.op with
     | aZ sz ag=>
       rw [ho] at h
       have hl:=rV h
       exact hl
     | ix c ok z=>
       rw [ho] at h
       exact rW h
     | _=>rw [ho] at ht;simp [AK.sr] at ht
theorem mV {o:dV} {E:Nat→Option AV} {M:Nat→Option (List AV)} {sh:Sh} {ah:aL} {r:Out} (ht:o.op.gf=false) (h:dL orc o E M sh ah=some r) :
   r.ah=ah∧∀ts,dL orc o E M sh ts=some { r with ah:=ts }:=by
 unfold dL at *
 split at h
 · simp at h
 · simp at h;subst h;exact ⟨rfl,fun _=>rfl⟩
 · split at h
   · simp at h
   · exact MY ht h
theorem mW {o:dV} {E:Nat→Option AV} {M:Nat→Option (List AV)} {sh:Sh} {ah:aL} {r:Out} (ht:o.op.ij=false) (hk:o.op.key≠none) (h:dL orc o E M sh ah=some r):r.cells=none:=by
 unfold dL at h
 split at h
 · simp at h
 · simp at h;subst h;rfl
 · split at h
   · simp at h
   · exact MZ ht hk h
structure jo (x y:St):Prop where
 env:∀t,look x.env t=look y.env t
 mem:∀t,look x.mem t=look y.mem t
 sh:x.sh=y.sh
 ah:x.ah=y.ah
theorem jo.refl (x:St):jo x x:=⟨fun _=>rfl,fun _=>rfl,rfl,rfl⟩
theorem jo.symm {x y:St} (h:jo x y):jo y x:=⟨fun t=>(h.env t).symm,fun t=>(h.mem t).symm,h.sh.symm,h.ah.symm⟩
theorem jo.trans {x y z:St} (h:jo x y) (k:jo y z):jo x z:=⟨fun t=>(h.env t).trans (k.env t),fun t=>(h.mem t).trans (k.mem t),h.sh.trans k.sh,h.ah.trans k.ah⟩
theorem lh (env:List (Nat×AV)) (d:Option Nat) (v:AV) (t:Nat):look (fW env d v) t=if d=some t then some v else look env t:=by
 cases d with
 | none=>simp [fW]
 | some d=>
   simp only [fW,Option.some.injEq]
   by_cases h:d=t
   · subst h;rw [if_pos rfl,ck]
   · rw [if_neg h,bZ _ _ _ _ h]
theorem lj (mem:List (Nat×List AV)) (k:Option Nat) (c:Option (List AV)) (t:Nat):look (fh mem k c) t=if k=some t then (match c with | some cs=>some cs | none=>look mem t) else look mem t:=by
 cases c with
 | none=>rw [e_];split<;>rfl
 | some cs=>
   cases k with
   | none=>simp [fh]
   | some k=>
     simp only [fh,Option.some.injEq]
     by_cases h:k=t
     · subst h;rw [if_pos rfl,ck]
     · rw [if_neg h,bZ _ _ _ _ h]
theorem C4 {o:dV} {x y x':St} (h:jo x y) (he:eo orc o x=some x'):∃y',eo orc o y=some y'∧jo x' y':=by
 rw [jn,Option.map_eq_some_iff] at he
 obtain ⟨r,hr,rfl⟩:=he
 have:dL orc o (look y.env) (look y.mem) y.sh y.ah=some r:=by
   rw [←h.sh,←h.ah,←hr]
   exact (jO (fun t _=>h.env t) (fun t _=>h.mem t)).symm
 refine ⟨{ env:=fW y.env o.dst r.val,mem:=fh y.mem o.op.key r.cells,sh:=r.sh,ah:=r.ah },by rw [jn,this];rfl,⟨fun t=>?_,fun t=>?_,rfl,rfl⟩⟩
 · simp only [lh,h.env]
 · simp only [lj,h.mem]
end
end Go.Ab
