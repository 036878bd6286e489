import Derived.Test.YthcoecdbgdhihaaGreatDoorAbDefs
import Derived.Calls
import Derived.Laws.World
import Derived.Laws.Sem
/-
  What an abstract value says of a value of the model: relations over what is known of memory for QD.
-/
set_option linter.unusedVariables false
set_option linter.unusedSimpArgs false
set_option linter.unnecessarySimpa false
set_option maxRecDepth 100000
set_option maxHeartbeats 8000000
namespace Go.Ab
theorem JH {a b c:Prop} (h:a∨b) (f:b→c):a∨c:=h.elim .inl fun x=>.inr (f x)
abbrev bJ:=Nat→Nat→Option Value
def At (K:bJ) (b o:Nat) (vs:List Value):Prop:=∀j v,vs[j]?=some v→K b (o+j)=some v
mutual
def R (K:bJ) (top:Bool):PV→List Value→Prop
 | .bool b,vs=>vs=[.bool b]
 | .int k n,vs=>vs=[.int k n]
 | .str s,vs=>vs=[.string ⟨s.toArray⟩]
 | .agg cs,vs=>top=true∧dV K cs vs
 | .aI els,vs=>∃base len cap,vs=[.slice base len cap]∧len≤cap∧els.length=len∧(els=[]∨∃b o sz,base=some ⟨b,o,none⟩∧Row K b o sz els)
def dV (K:bJ):List PV→List Value→Prop
 | [],vs=>vs=[]
 | c::cs,vs=>∃v r,vs=v::r∧R K false c [v]∧dV K cs r
def Row (K:bJ) (b o sz:Nat):List PV→Prop
 | []=>True
 | el::r=>(∃vs,vs.length=sz∧At K b o vs∧R K true el vs)∧Row K b (o+sz) sz r
end
def Rel (K:bJ):PV→Value→Prop
 | .agg cs,v=>∃vs:List Value,v=.agg vs.toArray∧dV K cs vs
 | p,v=>R K false p [v]
def iZ (K:bJ):List PV→List Value→Prop
 | [],vs=>vs=[]
 | c::cs,vs=>∃v r,vs=v::r∧Rel K c v∧iZ K cs r
def bJ.le (K K':bJ):Prop:=∀b o v,K b o=some v→K' b o=some v
theorem bJ.le_refl (K:bJ):K.le K:=fun _ _ _ h=>h
theorem bJ.le_trans {a b c:bJ} (h:a.le b) (k:b.le c):a.le c:=fun x y z w=>k x y z (h x y z w)
theorem At.mono {K K':bJ} (h:K.le K') {b o:Nat} {vs:List Value} (ha:At K b o vs):At K' b o vs:=fun j v hj=>h _ _ _ (ha j v hj)
mutual
theorem R.mono {K K':bJ} (h:K.le K'):∀(p:PV) (top:Bool) (vs:List Value),R K top p vs→R K' top p vs
 | .bool _,_,_,hr=>by simpa only [R] using hr
 | .int _ _,_,_,hr=>by simpa only [R] using hr
 | .str _,_,_,hr=>by simpa only [R] using hr
 | .agg cs,_,vs,hr=>by
   simp only [R] at hr ⊢;exact ⟨hr.1,dV.mono h cs vs hr.2⟩
 | .aI els,_,vs,hr=>by
   simp only [R] at hr ⊢;obtain ⟨base,len,cap,e1,e0,e2,e3⟩:=hr;refine ⟨base,len,cap,e1,e0,e2,JH e3 ?_⟩
   rintro ⟨b,o,sz,e4,e5⟩
   exact ⟨b,o,sz,e4,Row.mono h els b o sz e5⟩
theorem dV.mono {K K':bJ} (h:K.le K'):∀(cs:List PV) (vs:List Value),dV K cs vs→dV K' cs vs
 | [],_,hr=>by simpa only [dV] using hr
 | c::cs,vs,hr=>by
   simp only [dV] at hr ⊢;obtain ⟨v,r,e1,e2,e3⟩:=hr;exact ⟨v,r,e1,R.mono h c false [v] e2,dV.mono h cs r e3⟩
theorem Row.mono {K K':bJ} (h:K.le K'):∀(els:List PV) (b o sz:Nat),Row K b o sz els→Row K' b o sz els
 | [],_,_,_,_=>by simp only [Row]
 | el::r,b,o,sz,hr=>by
   simp only [Row] at hr ⊢;obtain ⟨⟨vs,e1,e2,e3⟩,e4⟩:=hr;exact ⟨⟨vs,e1,e2.mono h,R.mono h el true vs e3⟩,Row.mono h r b (o+sz) sz e4⟩
end
theorem Rel.mono {K K':bJ} (h:K.le K') {p:PV} {v:Value} (hr:Rel K p v):Rel K' p v:=by
 cases p with
 | agg cs=>obtain ⟨vs,e1,e2⟩:=hr;exact ⟨vs,e1,dV.mono h _ _ e2⟩
 | _=>exact R.mono h _ _ _ hr
theorem iZ.mono {K K':bJ} (h:K.le K'):∀{cs:List PV} {vs:List Value},iZ K cs vs→iZ K' cs vs
 | [],_,hr=>hr
 | _::_,_,⟨v,r,e1,e2,e3⟩=>⟨v,r,e1,e2.mono h,iZ.mono h e3⟩
theorem dV.length {K:bJ}:∀{cs:List PV} {vs:List Value},dV K cs vs→vs.length=cs.length
 | [],_,hr=>by simp only [dV] at hr;simp [hr]
 | _::cs,_,hr=>by
   simp only [dV] at hr;obtain ⟨v,r,rfl,_,e3⟩:=hr;simp [dV.length e3]
theorem iZ.length {K:bJ}:∀{cs:List PV} {vs:List Value},iZ K cs vs→vs.length=cs.length
 | [],_,hr=>by cases hr;rfl
 | _::_,_,⟨v,r,rfl,_,e3⟩=>by simp [iZ.length e3]
theorem R.length {K:bJ} {p:PV} {vs:List Value} (h:R K true p vs):vs.length=(bw p).length:=by
 cases p with
 | agg cs=>simp only [R] at h;simp [bw,h.2.length]
 | aI els=>simp only [R] at h;obtain ⟨b,l,c,rfl,_⟩:=h;rfl
 | _=>simp only [R] at h;subst h;rfl
theorem R.cells {K:bJ} {p:PV} {vs:List Value} (h:R K true p vs):dV K (bw p) vs:=by
 cases p with
 | agg cs=>simp only [R] at h;exact h.2
 | aI els=>
   have h':=h;simp only [R] at h;obtain ⟨b,l,c,rfl,e⟩:=h;simp only [bw,dV];exact ⟨_,[],rfl,by simp only [R];exact ⟨b,l,c,rfl,e⟩,rfl⟩
 | _=>simp only [R] at h;subst h;simp [bw,dV,R]
theorem R.top {K:bJ} {p:PV} {vs:List Value} (h:R K false p vs):R K true p vs:=by
 cases p with
 | agg cs=>simp [R] at h
 | _=>simp only [R] at h ⊢;exact h
theorem dV.get {K:bJ}:∀{cs:List PV} {vs:List Value},dV K cs vs→∀{j:Nat} {c:PV},cs[j]?=some c→∃v,vs[j]?=some v∧R K false c [v]
 | [],_,_,j,c,hc=>by simp at hc
 | c0::cs,vs,h,j,c,hc=>by
   simp only [dV] at h;obtain ⟨v,r,rfl,e2,e3⟩:=h;cases j with
   | zero=>simp at hc;subst hc;exact ⟨v,by simp,e2⟩
   | succ j=>simpa using dV.get e3 (by simpa using hc)
theorem dV.drop {K:bJ}:∀(n:Nat) {cs:List PV} {vs:List Value},dV K cs vs→dV K (cs.drop n) (vs.drop n)
 | 0,_,_,h=>by simpa using h
 | n+1,[],_,h=>by simp only [dV] at h;subst h;simp [dV]
 | n+1,_::cs,_,h=>by
   simp only [dV] at h;obtain ⟨v,r,rfl,_,e3⟩:=h;simpa using dV.drop n e3
theorem dV.take {K:bJ}:∀(n:Nat) {cs:List PV} {vs:List Value},dV K cs vs→dV K (cs.take n) (vs.take n)
 | 0,_,_,_=>by simp [dV]
 | n+1,[],_,h=>by simp only [dV] at h;subst h;simp [dV]
 | n+1,_::cs,_,h=>by
   simp only [dV] at h;obtain ⟨v,r,rfl,e2,e3⟩:=h;simp only [List.take_succ_cons,dV];exact ⟨v,_,rfl,e2,dV.take n e3⟩
theorem dV.append {K:bJ}:∀{cs:List PV} {vs:List Value} {ds:List PV} {us:List Value},dV K cs vs→dV K ds us→dV K (cs++ds) (vs++us)
 | [],_,_,_,h,k=>by simp only [dV] at h;subst h;simpa using k
 | _::cs,_,_,_,h,k=>by
   simp only [dV] at h;obtain ⟨v,r,rfl,e2,e3⟩:=h;simp only [List.cons_append,dV];exact ⟨v,_,rfl,e2,dV.append e3 k⟩
theorem Row.get {K:bJ}:∀{els:List PV} {b o sz:Nat},Row K b o sz els→∀{i:Nat} {el:PV},els[i]?=some el →
   ∃vs,vs.length=sz∧At K b (o+i*sz) vs∧R K true el vs
 | [],_,_,_,_,i,el,h=>by simp at h
 | e0::r,b,o,sz,hr,i,el,h=>by
   simp only [Row] at hr;obtain ⟨e1,e2⟩:=hr;cases i with
   | zero=>simp at h;subst h;simpa using e1
   | succ i=>
     obtain ⟨vs,h1,h2,h3⟩:=Row.get e2 (i:=i) (by simpa using h);exact ⟨vs,h1,by rw [show o+(i+1)*sz=o+sz+i*sz from by rw [Nat.add_mul];omega];exact h2,h3⟩
theorem dV.one {K:bJ}:∀{cs:List PV} {vs:List Value},dV K cs vs→∀u∈vs,u.oneCell'=true
 | [],_,h,u,hu=>by simp only [dV] at h;subst h;simp at hu
 | c::cs,_,h,u,hu=>by
   simp only [dV] at h;obtain ⟨v,r,rfl,e2,e3⟩:=h;simp only [List.mem_cons] at hu;rcases hu with rfl | hu
   · cases c with
     | agg _=>simp [R] at e2
     | aI _=>simp only [R] at e2;obtain ⟨b,l,c,e,_⟩:=e2;simp at e;subst e;rfl
     | _=>simp [R] at e2;subst e2;rfl
   · exact dV.one e3 u hu
theorem Row.flat {K:bJ}:∀{els:List PV} {b o sz:Nat},Row K b o sz els →
   ∃vss:List Value,vss.length=els.length*sz∧At K b o vss∧(∀(K':bJ) (b' o':Nat),K.le K'→At K' b' o' vss→Row K' b' o' sz els)∧∀u∈vss,u.oneCell'=true
 | [],b,o,sz,_=>⟨[],by simp,by intro j v h;simp at h,by intros;simp only [Row],by simp⟩
 | el::r,b,o,sz,hr=>by
   simp only [Row] at hr;obtain ⟨⟨vs,h1,h2,h3⟩,h4⟩:=hr;obtain ⟨vss,g1,g2,g3,g4⟩:=Row.flat h4;refine ⟨vs++vss,by simp [h1,g1,Nat.add_mul];omega,?_,?_,?_⟩
   · intro j v hj;rw [List.getElem?_append] at hj;split at hj
     · exact h2 j v hj
     · have:=g2 _ v hj;rw [h1] at this
       rwa [show o+sz+(j-sz)=o+j from by omega] at this
   · intro K' b' o' hle ha;simp only [Row];refine ⟨⟨vs,h1,?_,R.mono hle _ _ _ h3⟩,?_⟩
     · intro j v hj;exact ha j v (by rw [List.getElem?_append_left];exact hj;exact (List.getElem?_eq_some_iff.1 hj).1)
     · refine g3 K' b' (o'+sz) hle ?_;intro j v hj;have:=ha (sz+j) v (by rw [List.getElem?_append_right (by omega),h1];simpa using hj)
       rwa [show o'+sz+j=o'+(sz+j) from by omega]
   · intro u hu;simp only [List.mem_append] at hu;rcases hu with hu | hu
     · exact dV.one h3.cells u hu
     · exact g4 u hu
theorem Row.append {K:bJ}:∀{els:List PV} {b o sz:Nat} {els':List PV},Row K b o sz els→Row K b (o+els.length*sz) sz els'→Row K b o sz (els++els')
 | [],_,_,_,_,_,k=>by simpa using k
 | el::r,b,o,sz,els',h,k=>by
   simp only [Row,List.cons_append] at h ⊢;refine ⟨h.1,Row.append h.2 ?_⟩;rw [show o+sz+r.length*sz=o+(el::r).length*sz from by simp [Nat.add_mul];omega];exact k
theorem Row.drop {K:bJ}:∀(n:Nat) {els:List PV} {b o sz:Nat},Row K b o sz els→Row K b (o+n*sz) sz (els.drop n)
 | 0,_,_,_,_,h=>by simpa using h
 | n+1,[],_,_,_,_=>by simp only [List.drop_nil,Row]
 | n+1,el::r,b,o,sz,h=>by
   simp only [Row] at h;simp only [List.drop_succ_cons];rw [show o+(n+1)*sz=o+sz+n*sz from by rw [Nat.add_mul];omega];exact Row.drop n h.2
theorem Row.take {K:bJ}:∀(n:Nat) {els:List PV} {b o sz:Nat},Row K b o sz els→Row K b o sz (els.take n)
 | 0,_,_,_,_,_=>by simp only [List.take_zero,Row]
 | n+1,[],_,_,_,_=>by simp only [List.take_nil,Row]
 | n+1,el::r,b,o,sz,h=>by
   simp only [Row] at h;simp only [List.take_succ_cons,Row];exact ⟨h.1,Row.take n h.2⟩
theorem Row.sz {K:bJ} {els:List PV} {b o sz s:Nat} (h:Row K b o sz els) (hs:bC s els=true) (hne:els≠[]):s=sz:=by
 cases els with
 | nil=>exact absurd rfl hne
 | cons el r=>
   simp only [Row] at h;obtain ⟨⟨vs,h1,_,h3⟩,_⟩:=h;have:=h3.length;simp [bC] at hs;omega
def Ly (K:bJ) (els:List PV) (base:Option Addr) (len:Nat):Prop:=
 els.length=len∧(els=[]∨∃b o sz,base=some ⟨b,o,none⟩∧Row K b o sz els)
theorem Ly.mono {K K':bJ} (h:K.le K') {els:List PV} {base:Option Addr} {len:Nat} (hr:Ly K els base len):Ly K' els base len:=
 ⟨hr.1,JH hr.2 fun ⟨b,o,sz,e,r⟩=>⟨b,o,sz,e,Row.mono h _ _ _ _ r⟩⟩
theorem cK {K:bJ} {els:List PV} {v:Value}:Rel K (.aI els) v↔∃base len cap,v=.slice base len cap∧len≤cap∧Ly K els base len:=by
 simp only [Rel,R,Ly];constructor
 · rintro ⟨b,l,c,e,h⟩;exact ⟨b,l,c,by simpa using e,h⟩
 · rintro ⟨b,l,c,e,h⟩;exact ⟨b,l,c,by simpa using e,h⟩
theorem Gx {K:bJ} {p:PV} {v:Value} (h:eI p=true):Rel K p v↔R K false p [v]:=by
 cases p with
 | agg cs=>simp [eI] at h
 | _=>exact Iff.rfl
theorem Rel.Jy {K:bJ} {p:PV} {v:Value} (h:R K false p [v]):Rel K p v:=by
 cases p with
 | agg cs=>simp [R] at h
 | _=>exact h
end Go.Ab
