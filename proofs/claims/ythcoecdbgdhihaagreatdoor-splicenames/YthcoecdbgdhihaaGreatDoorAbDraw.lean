import Derived.Test.YthcoecdbgdhihaaGreatDoorAbRegion
/-
  A region that draws its order: whatever order is picked, the end is that of the text's order.
-/
set_option linter.unusedVariables false
set_option linter.unusedSimpArgs false
set_option linter.unnecessarySimpa false
set_option maxRecDepth 100000
set_option maxHeartbeats 8000000
namespace Go.Ab
section
variable {orc:ep}
def GJ (E:Nat→Option AV):e8→Option AV
 | .t n=>E n
 | .c v=>some v
def jW (E:Nat→Option AV):List e8→Option (List AV)
 | []=>some []
 | x::r=>match GJ E x,jW E r with
   | some v,some vs=>some (v::vs)
   | _,_=>none
def l6 (E:Nat→Option AV):Option (Nat×Bool)→Option Bool
 | none=>some true
 | some (t,b)=>match E t with
   | some (.pv (.bool c))=>some (c == b)
   | some .un=>some false
   | _=>none
def dj (orc:ep) (o:dv) (E:Nat→Option AV) (M:Nat→Option (List AV)) (sh:Sh) (ah:aN):Option Out:=
 match l6 E o.guard with
 | none=>none
 | some false=>some ⟨.un,none,sh,ah⟩
 | some true=>match jW E o.args with
   | none=>none
   | some vals=>exec orc o.op vals (o.op.key.bind M) sh ah
theorem rA (env:List (Nat×AV)):∀l,ei env l=jW (look env) l
 | []=>rfl
 | x::l=>by
   have:gY env x=GJ (look env) x:=by cases x<;>rfl
   simp only [ei,jW,this,rA env l];rfl
theorem ez (o:dv) (st:St):eg orc o st=(dj orc o (look st.env) (look st.mem) st.sh st.ah).map
   fun r=>{ env:=fY st.env o.dst r.val,mem:=e_ st.mem o.op.key r.cells,sh:=r.sh,ah:=r.ah }:=by
 unfold eg dj;have hw:fG st.env o.guard=l6 (look st.env) o.guard:=by
   cases o.guard with
   | none=>rfl
   | some g=>rfl
 rw [hw];cases l6 (look st.env) o.guard with
 | none=>rfl
 | some b=>cases b with
   | false=>simp [fJ]
   | true=>
     simp only [rA];cases jW (look st.env) o.args with
     | none=>rfl
     | some vals=>
       simp only;cases exec orc o.op vals (o.op.key.bind (look st.mem)) st.sh st.ah<;>rfl
theorem lE {E E':Nat→Option AV}:∀{l:List e8},(∀t∈l.filterMap (fun | .t n=>some n | _=>none),E t=E' t)→jW E l=jW E' l
 | [],_=>rfl
 | .c v::l,h=>by
   simp only [jW,GJ];rw [lE (l:=l) (fun t ht=>h t (by simpa using ht))]
 | .t n::l,h=>by
   simp only [jW,GJ];rw [lE (l:=l) (fun t ht=>h t (by simp only [List.filterMap_cons,List.mem_cons];exact .inr ht)),h n (by simp)]
theorem gP {o:dv} {E E':Nat→Option AV} {M M':Nat→Option (List AV)} {sh:Sh} {ah:aN} (hE:∀t∈o.looks,E t=E' t) (hM:∀k,o.op.key=some k→M k=M' k) :
   dj orc o E M sh ah=dj orc o E' M' sh ah:=by
 have h1:l6 E o.guard=l6 E' o.guard:=by
   cases hg:o.guard with
   | none=>rfl
   | some g=>
     obtain ⟨t,b⟩:=g;simp only [l6];rw [hE t (by simp [dv.looks,hg])]
 have h2:jW E o.args=jW E' o.args:=lE fun t ht=>hE t (by simp only [dv.looks,List.mem_append];exact .inl ht)
 have h3:o.op.key.bind M=o.op.key.bind M':=by
   cases hk:o.op.key with
   | none=>rfl
   | some k=>exact hM k hk
 unfold dj;rw [h1,h2,h3]
theorem MA {op:AK} {vals:List AV} {cells:Option (List AV)} {sh:Sh} {ah:aN} {r:Out} (ht:op.iF=false) (h:exec orc op vals cells sh ah=some r) :
   r.sh=sh∧∀sh',exec orc op vals cells sh' ah=some { r with sh:=sh' }:=by
 cases op with
 | v vo=>
   simp only [exec,Option.map_eq_some_iff] at h ⊢;obtain ⟨x,h1,rfl⟩:=h;exact ⟨rfl,fun sh'=>⟨x,h1,rfl⟩⟩
 | aU k o s ag=>
   obtain ⟨cs,x,rfl,rfl,hx,rfl⟩:=ib h;exact ⟨rfl,fun sh'=>by simp [exec,hx]⟩
 | cV k o s=>
   obtain ⟨cs,v,rfl,rfl,h1,h2,h3,rfl⟩:=iy h;exact ⟨rfl,fun sh'=>by simp [exec,h1,h2,h3]⟩
 | alloc k z=>
   obtain ⟨rfl,rfl,rfl⟩:=jd h;exact ⟨rfl,fun sh'=>by simp [exec]⟩
 | box k s=>
   obtain ⟨v,rfl,rfl,h1,h2,rfl⟩:=ly h;exact ⟨rfl,fun sh'=>by simp only [exec];rw [if_pos ⟨h1,h2⟩]⟩
 | iY d s b z=>
   obtain ⟨k,k',n,rfl,h1,h2,h3,h4,rfl,rfl⟩:=je h;exact ⟨rfl,fun sh'=>by simp [exec,h1,h2,h3,h4]⟩
 | append s b=>
   obtain ⟨s,x,y,ts,rfl,h1,rfl⟩:=jy h;exact ⟨rfl,fun sh'=>by simp [exec,h1]⟩
 | dd s b ag=>simp [AK.iF] at ht
 | np s b=>first | (simp [exec] at h;done) | (simp [exec] at e;done) | (simp [exec];done)
 | gK s z=>simp [AK.iF] at ht
 | jq s=>simp [AK.iF] at ht
 | clone s b=>
   obtain ⟨x,y,ts,rfl,h1,rfl⟩:=mR h;exact ⟨rfl,fun sh'=>by simp [exec,h1]⟩
 | aq g=>
   simp only [exec] at h ⊢;split at h
   · rename_i dC hp;simp only [Option.map_eq_some_iff] at h;obtain ⟨rs,h1,rfl⟩:=h;exact ⟨rfl,fun sh'=>by simp [h1]⟩
   · simp at h
 | lg g=>
   simp only [exec] at h ⊢;split at h
   · rename_i dC hp;split at h
     · rename_i rs ts1 h1;cases h;exact ⟨rfl,fun sh'=>by simp [h1]⟩
     · simp at h
   · simp at h
 | _=>simp [AK.iF] at ht
theorem MB {op:AK} {vals:List AV} {cells:Option (List AV)} {sh:Sh} {ah:aN} {r:Out} (ht:op.gw=false) (h:exec orc op vals cells sh ah=some r) :
   r.ah=ah∧∀ts,exec orc op vals cells sh ts=some { r with ah:=ts }:=by
 cases op with
 | v vo=>
   simp only [exec,Option.map_eq_some_iff] at h ⊢;obtain ⟨x,h1,rfl⟩:=h;exact ⟨rfl,fun ts=>⟨x,h1,rfl⟩⟩
 | aU k o s ag=>
   obtain ⟨cs,x,rfl,rfl,hx,rfl⟩:=ib h;exact ⟨rfl,fun ts=>by simp [exec,hx]⟩
 | cV k o s=>
   obtain ⟨cs,v,rfl,rfl,h1,h2,h3,rfl⟩:=iy h;exact ⟨rfl,fun ts=>by simp [exec,h1,h2,h3]⟩
 | alloc k z=>
   obtain ⟨rfl,rfl,rfl⟩:=jd h;exact ⟨rfl,fun ts=>by simp [exec]⟩
 | box k s=>
   obtain ⟨v,rfl,rfl,h1,h2,rfl⟩:=ly h;exact ⟨rfl,fun ts=>by simp only [exec];rw [if_pos ⟨h1,h2⟩]⟩
 | iY d s b z=>
   obtain ⟨k,k',n,rfl,h1,h2,h3,h4,rfl,rfl⟩:=je h;exact ⟨rfl,fun ts=>by simp [exec,h1,h2,h3,h4]⟩
 | append s b=>simp [AK.gw] at ht
 | dd s b ag=>simp [AK.gw] at ht
 | np s b=>first | (simp [exec] at h;done) | (simp [exec] at e;done) | (simp [exec];done)
 | clone s b=>simp [AK.gw] at ht
 | gJ s b ag=>
   rcases vals with _ | ⟨x,_ | ⟨_,_⟩⟩
   · simp [exec] at h
   · simp only [exec,fW] at h ⊢;split at h
     · rename_i xs hx;split at h
       · rename_i hh;simp only [Option.map_map,Option.map_eq_some_iff] at h;obtain ⟨⟨y,sh'⟩,h1,rfl⟩:=h;refine ⟨rfl,fun ts=>?_⟩;simp [hx,hh,h1]
       · simp at h
     · simp at h
   · simp [exec] at h
 | gK s z=>
   obtain ⟨x,sh',rfl,h1,rfl⟩:=pG h;exact ⟨rfl,fun ts=>by simp [exec,h1]⟩
 | jq s=>
   obtain ⟨x,y,xs,k,sh',rfl,h0,h1,rfl⟩:=ki h;exact ⟨rfl,fun ts=>by simp [exec,h0,h1]⟩
 | Cq=>first | (simp [exec] at h;done) | (simp [exec] at e;done) | (simp [exec];done)
 | qM c ok z=>first | (simp [exec] at h;done) | (simp [exec] at e;done) | (simp [exec];done)
 | JF c=>first | (simp [exec] at h;done) | (simp [exec] at e;done) | (simp [exec];done)
 | aq g=>
   simp only [exec] at h ⊢;split at h
   · rename_i dC hp;simp only [Option.map_eq_some_iff] at h;obtain ⟨rs,h1,rfl⟩:=h;exact ⟨rfl,fun ts=>by simp [h1]⟩
   · simp at h
 | dN g=>
   simp only [exec] at h ⊢;split at h
   · rename_i dC hp;simp only [Option.map_eq_some_iff] at h;obtain ⟨rs,h1,rfl⟩:=h;exact ⟨rfl,fun ts=>by simp [h1]⟩
   · simp at h
 | aJ g own=>simp [AK.gw] at ht
 | lg g=>simp [AK.gw] at ht
 | eV=>simp [AK.gw] at ht
 | dE=>simp [AK.gw] at ht
 | bg s ag=>
   obtain ⟨p,x,rfl,rfl,hor⟩:=kg h;refine ⟨rfl,fun ts=>?_⟩;rcases hor with ⟨cs,rfl,hx⟩ | ⟨b,off,cs,rfl,hcs,hm,hx⟩
   · simp [exec,hx]
   · simp [exec,hcs,hm,hx]
 | cd s=>
   obtain ⟨b,off,v,cs,rfl,hcs,h0,h1,h2,h3,h4,rfl⟩:=iz h;refine ⟨rfl,fun ts=>?_⟩;simp only [exec,hcs];rw [if_pos ⟨h0,h1,h2,h3,h4⟩]
 | uT s=>first | (simp [exec] at h;done) | (simp [exec] at e;done) | (simp [exec];done)
 | mz s=>
   obtain ⟨v,rfl,h1,h2,h3,rfl⟩:=l0 h;refine ⟨rfl,fun ts=>?_⟩;simp only [exec];rw [if_pos ⟨h1,h2,h3⟩]
 | JE s=>first | (simp [exec] at h;done) | (simp [exec] at e;done) | (simp [exec];done)
 | iX z=>
   obtain ⟨rfl,rfl⟩:=jx h;exact ⟨rfl,fun ts=>by simp [exec]⟩
 | ir s b ag z=>
   obtain ⟨k,k',n,rfl,h1,h2,h3,h4,rfl⟩:=kh h;exact ⟨rfl,fun ts=>by simp [exec,h1,h2,h3,h4]⟩
theorem MC {op:AK} {vals:List AV} {cells:Option (List AV)} {sh:Sh} {ah:aN} {r:Out} (ht:op.ik=false) (hk:op.key≠none) (h:exec orc op vals cells sh ah=some r):r.cells=none:=by
 cases op with
 | aU k o s ag=>
   obtain ⟨cs,x,rfl,rfl,hx,rfl⟩:=ib h;rfl
 | cV k o s=>simp [AK.ik] at ht
 | alloc k z=>simp [AK.ik] at ht
 | box k s=>simp [AK.ik] at ht
 | iY d s b z=>simp [AK.ik] at ht
 | _=>simp [AK.key] at hk
theorem tv {sz:Nat} {ag:Bool} {vals:List AV} {cells:Option (List AV)} {sh:Sh} {ah:aN} {r:Out} (h:exec orc (.bg sz ag) vals cells sh ah=some r):r.sh=sh:=by
 obtain ⟨p,x,rfl,rfl,_⟩:=kg h;rfl
theorem tw {c:CK} {ok:Bool} {z:PV} {vals:List AV} {cells:Option (List AV)} {sh:Sh} {ah:aN} {r:Out} (h:exec orc (.qM c ok z) vals cells sh ah=some r):r.sh=sh:=by simp [exec] at h
theorem rB {vals:List AV} {cells:Option (List AV)} {sh:Sh} {ah:aN} {r:Out} (h:exec orc .dE vals cells sh ah=some r):r.sh=sh:=by
 cases vals with
 | nil=>simp [exec] at h
 | cons f vals=>
   cases f with
   | fn g cap=>
     simp only [exec,Option.bind_eq_some_iff] at h;obtain ⟨⟨v,sh',ts⟩,_,h2⟩:=h;simp only [QC,Option.ite_none_right_eq_some,Option.some.injEq] at h2;rw [←h2.2]
   | _=>simp [exec] at h
theorem rC {o:dv} {E:Nat→Option AV} {M:Nat→Option (List AV)} {sh:Sh} {ah:aN} {r:Out} (ht:o.op.iF=false) (h:dj orc o E M sh ah=some r) :
   r.sh=sh∧∀sh',dj orc o E M sh' ah=some { r with sh:=sh' }:=by
 unfold dj at *;split at h
 · simp at h
 · simp at h;subst h;exact ⟨rfl,fun _=>rfl⟩
 · split at h
   · simp at h
   · exact MA ht h
theorem xI {o:dv} {E:Nat→Option AV} {M:Nat→Option (List AV)} {sh:Sh} {ah:aN} {r:Out} (ht:o.op.tQ=true) (h:dj orc o E M sh ah=some r):r.sh=sh:=by
 unfold dj at *;split at h
 · simp at h
 · simp at h;subst h;rfl
 · split at h
   · simp at h
   · rename_i vals _;cases ho:o.op with
     | bg sz ag=>
       rw [ho] at h;have hl:=tv h;exact hl
     | qM c ok z=>
       rw [ho] at h;exact tw h
     | dE=>
       rw [ho] at h;exact rB h
     | _=>rw [ho] at ht;simp [AK.tQ] at ht
theorem nM {o:dv} {E:Nat→Option AV} {M:Nat→Option (List AV)} {sh:Sh} {ah:aN} {r:Out} (ht:o.op.gw=false) (h:dj orc o E M sh ah=some r) :
   r.ah=ah∧∀ts,dj orc o E M sh ts=some { r with ah:=ts }:=by
 unfold dj at *;split at h
 · simp at h
 · simp at h;subst h;exact ⟨rfl,fun _=>rfl⟩
 · split at h
   · simp at h
   · exact MB ht h
theorem nN {o:dv} {E:Nat→Option AV} {M:Nat→Option (List AV)} {sh:Sh} {ah:aN} {r:Out} (ht:o.op.ik=false) (hk:o.op.key≠none) (h:dj orc o E M sh ah=some r):r.cells=none:=by
 unfold dj at h;split at h
 · simp at h
 · simp at h;subst h;rfl
 · split at h
   · simp at h
   · exact MC ht hk h
structure jF (x y:St):Prop where
 env:∀t,look x.env t=look y.env t
 mem:∀t,look x.mem t=look y.mem t
 sh:x.sh=y.sh
 ah:x.ah=y.ah
theorem jF.refl (x:St):jF x x:=⟨fun _=>rfl,fun _=>rfl,rfl,rfl⟩
theorem jF.symm {x y:St} (h:jF x y):jF y x:=⟨fun t=>(h.env t).symm,fun t=>(h.mem t).symm,h.sh.symm,h.ah.symm⟩
theorem jF.trans {x y z:St} (h:jF x y) (k:jF y z):jF x z:=⟨fun t=>(h.env t).trans (k.env t),fun t=>(h.mem t).trans (k.mem t),h.sh.trans k.sh,h.ah.trans k.ah⟩
theorem eP (env:List (Nat×AV)) (d:Option Nat) (v:AV) (t:Nat):look (fY env d v) t=if d=some t then some v else look env t:=by
 cases d with
 | none=>simp [fY]
 | some d=>
   simp only [fY,Option.some.injEq];by_cases h:d=t
   · subst h;rw [if_pos rfl,bX]
   · rw [if_neg h,cr _ _ _ _ h]
theorem l7 (mem:List (Nat×List AV)) (k:Option Nat) (c:Option (List AV)) (t:Nat):look (e_ mem k c) t=if k=some t then (match c with | some cs=>some cs | none=>look mem t) else look mem t:=by
 cases c with
 | none=>rw [fJ];split<;>rfl
 | some cs=>
   cases k with
   | none=>simp [e_]
   | some k=>
     simp only [e_,Option.some.injEq];by_cases h:k=t
     · subst h;rw [if_pos rfl,bX]
     · rw [if_neg h,cr _ _ _ _ h]
theorem DR {o:dv} {x y x':St} (h:jF x y) (he:eg orc o x=some x'):∃y',eg orc o y=some y'∧jF x' y':=by
 rw [ez,Option.map_eq_some_iff] at he;obtain ⟨r,hr,rfl⟩:=he;have:dj orc o (look y.env) (look y.mem) y.sh y.ah=some r:=by
   rw [←h.sh,←h.ah,←hr];exact (gP (fun t _=>h.env t) (fun t _=>h.mem t)).symm
 refine ⟨{ env:=fY y.env o.dst r.val,mem:=e_ y.mem o.op.key r.cells,sh:=r.sh,ah:=r.ah },by rw [ez,this];rfl,⟨fun t=>?_,fun t=>?_,rfl,rfl⟩⟩
 · simp only [eP,h.env]
 · simp only [l7,h.mem]
end
end Go.Ab
