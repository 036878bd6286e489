import Derived.Test.YthcoecdbgdhihaaGreatDoorAbDraw
/-
  Two operations that have nothing to do with one another may change places; so the order of the text serves every order.
-/
set_option linter.unusedVariables false
set_option linter.unusedSimpArgs false
set_option linter.unnecessarySimpa false
set_option maxRecDepth 100000
set_option maxHeartbeats 8000000
namespace Go.Ab
section
variable {orc:ep}
theorem oL {x y:dv} (h:indep x y=true) :
   (∀d,x.dst=some d→d∉y.looks∧y.dst≠some d)∧(∀d,y.dst=some d→d∉x.looks)∧(x.op.iF=false∨y.op.iF=false∨(x.op.tQ=true∧y.op.tQ=true))∧(x.op.gw=false∨y.op.gw=false) ∧
   (∀k,x.op.key=some k→y.op.key=some k→x.op.ik=false∧y.op.ik=false):=by
 simp only [indep,Bool.and_eq_true,Bool.or_eq_true,Bool.not_eq_true',Bool.and_eq_false_iff] at h;obtain ⟨⟨⟨⟨h1,h2⟩,h3⟩,h4⟩,h5⟩:=h;refine ⟨fun d hd=>?_,fun d hd=>?_,h3.elim (fun h=>h.elim .inl fun h=>.inr (.inl h)) fun h=>.inr (.inr h),h4,fun k hx hy=>?_⟩
 · rw [hd] at h1;simp at h1;exact h1
 · rw [hd] at h2;simpa using h2
 · rw [hx,hy] at h5;simp at h5;exact h5
theorem JQ {x y:dv} (h:indep x y=true) {st st1 st2:St} (h1:eg orc x st=some st1) (h2:eg orc y st1=some st2) :
   ∃st1' st2',eg orc y st=some st1'∧eg orc x st1'=some st2'∧jF st2' st2:=by
 obtain ⟨hd1,hd2,hS,hT,hK⟩:=oL h;rw [ez,Option.map_eq_some_iff] at h1 h2;obtain ⟨r1,hr1,rfl⟩:=h1;obtain ⟨r2,hr2,rfl⟩:=h2;simp only at hr2;have hr2':dj orc y (look st.env) (look st.mem) r1.sh r1.ah=some r2:=by
   rw [←hr2];refine gP (fun t ht=>?_) (fun k hk=>?_)
   · rw [eP,if_neg];intro e;exact (hd1 t e).1 ht
   · rw [l7];split
     · rename_i e;have:=nN (hK k e hk).1 (by rw [e];simp) hr1;rw [this]
     · rfl
 obtain ⟨sh',ts',hy,hsh,hts⟩:∃sh' ts',dj orc y (look st.env) (look st.mem) st.sh st.ah=some { r2 with sh:=sh',ah:=ts' } ∧
     ((x.op.iF=false∧sh'=r2.sh∧r1.sh=st.sh)∨(sh'=st.sh∧r2.sh=r1.sh)) ∧
     ((x.op.gw=false∧ts'=r2.ah∧r1.ah=st.ah)∨(y.op.gw=false∧ts'=st.ah∧r2.ah=r1.ah)):=by
   have stepS:∃sh',dj orc y (look st.env) (look st.mem) st.sh r1.ah=some { r2 with sh:=sh' }∧((x.op.iF=false∧sh'=r2.sh∧r1.sh=st.sh)∨(sh'=st.sh∧r2.sh=r1.sh)):=by
     rcases hS with hS | hS | ⟨hS,hS'⟩
     · have e:=(rC hS hr1).1;exact ⟨r2.sh,by rw [←e];exact hr2',.inl ⟨hS,rfl,e⟩⟩
     · obtain ⟨e,f⟩:=rC hS hr2';exact ⟨st.sh,f st.sh,.inr ⟨rfl,e⟩⟩
     · have e:=xI hS hr1;have e2:=xI hS' hr2';exact ⟨r2.sh,by rw [←e];exact hr2',.inr ⟨e2.trans e,e2⟩⟩
   obtain ⟨sh',hy1,hsh⟩:=stepS;rcases hT with hT | hT
   · have e:=(nM hT hr1).1;exact ⟨sh',r2.ah,by rw [←e];exact hy1,hsh,.inl ⟨hT,rfl,e⟩⟩
   · obtain ⟨_,f⟩:=nM hT hy1;have e:=(nM hT hr2').1;exact ⟨sh',st.ah,f st.ah,hsh,.inr ⟨hT,rfl,e⟩⟩
 refine ⟨{ env:=fY st.env y.dst r2.val,mem:=e_ st.mem y.op.key r2.cells,sh:=sh',ah:=ts' },?_⟩;have hx:dj orc x (look (fY st.env y.dst r2.val)) (look (e_ st.mem y.op.key r2.cells)) st.sh st.ah=some r1:=by
   rw [←hr1];refine gP (fun t ht=>?_) (fun k hk=>?_)
   · rw [eP,if_neg];intro e;exact hd2 t e ht
   · rw [l7];split
     · rename_i e;have:=nN (hK k hk e).2 (by rw [e];simp) hr2';rw [this]
     · rfl
 obtain ⟨r1',hx',hval,hcells,hsh2,hts2⟩:∃r1',dj orc x (look (fY st.env y.dst r2.val)) (look (e_ st.mem y.op.key r2.cells)) sh' ts'=some r1'∧r1'.val=r1.val∧r1'.cells=r1.cells∧r1'.sh=r2.sh∧r1'.ah=r2.ah:=by
   have stepS:∃r1',dj orc x (look (fY st.env y.dst r2.val)) (look (e_ st.mem y.op.key r2.cells)) sh' st.ah=some r1'∧r1'.val=r1.val∧r1'.cells=r1.cells∧r1'.sh=r2.sh∧r1'.ah=r1.ah:=by
     rcases hsh with ⟨hS,rfl,_⟩ | ⟨rfl,e⟩
     · exact ⟨_,(rC hS hx).2 r2.sh,rfl,rfl,rfl,rfl⟩
     · exact ⟨r1,hx,rfl,rfl,e.symm,rfl⟩
   obtain ⟨ra,ha,a1,a2,a3,a4⟩:=stepS;rcases hts with ⟨hT,rfl,_⟩ | ⟨_,rfl,e⟩
   · exact ⟨_,(nM hT ha).2 r2.ah,a1,a2,a3,rfl⟩
   · exact ⟨ra,ha,a1,a2,a3,a4.trans e.symm⟩
 refine ⟨{ env:=fY (fY st.env y.dst r2.val) x.dst r1'.val,mem:=e_ (e_ st.mem y.op.key r2.cells) x.op.key r1'.cells,sh:=r1'.sh,ah:=r1'.ah },?_,?_,?_⟩
 · rw [ez,hy];rfl
 · rw [ez,hx'];rfl
 · refine ⟨fun t=>?_,fun t=>?_,hsh2,hts2⟩
   · simp only [eP,hval];by_cases hx:x.dst=some t
     · rw [if_pos hx,if_neg (hd1 t hx).2,if_pos hx]
     · rw [if_neg hx,if_neg hx]
   · simp only [l7,hcells];by_cases hx:x.op.key=some t
     · rw [if_pos hx,if_pos hx];by_cases hy:y.op.key=some t
       · rw [if_pos hy,if_pos hy];have e1:=nN (hK t hx hy).1 (by rw [hx];simp) hr1;have e2:=nN (hK t hx hy).2 (by rw [hy];simp) hr2';rw [e1,e2]
       · rw [if_neg hy,if_neg hy]
     · rw [if_neg hx,if_neg hx]
theorem vt {o:dv} {a:Nat} (h:o.addr=some a):∃r,o.args=.t a::r∧((∃sz ag,o.op=.bg sz ag)∨∃sz,o.op=.cd sz):=by
 unfold dv.addr at h;split at h
 · rename_i sz ag a' r h1 h2;cases h;exact ⟨r,h2,.inl ⟨sz,ag,h1⟩⟩
 · rename_i sz a' r h1 h2;cases h;exact ⟨r,h2,.inr ⟨sz,h1⟩⟩
 · cases h
theorem rD {o:dv} {a:Nat} (h:o.addr=some a):a∈o.looks:=by
 obtain ⟨r,h1,_⟩:=vt h;simp [dv.looks,h1]
theorem xJ {o:dv} {a:Nat} (h:o.addr=some a):o.op.key=none:=by
 obtain ⟨r,_,h | h⟩:=vt h
 · obtain ⟨_,_,h⟩:=h;rw [h];rfl
 · obtain ⟨_,h⟩:=h;rw [h];rfl
def DS (b:Nat) (g:Sh→Sh):Prop:=g=id∨∃x,g=fun s=>s.set b x
theorem DS.other {b b':Nat} {g:Sh→Sh} (h:DS b g) (hb:b≠b') (s:Sh):(g s)[b']?=s[b']?:=by
 rcases h with rfl | ⟨x,rfl⟩
 · rfl
 · exact List.getElem?_set_ne hb
theorem DS.comm {b b':Nat} {g g':Sh→Sh} (h:DS b g) (h':DS b' g') (hb:b≠b') (s:Sh):g (g' s)=g' (g s):=by
 rcases h with rfl | ⟨x,rfl⟩
 · rfl
 · rcases h' with rfl | ⟨y,rfl⟩
   · rfl
   · exact (List.set_comm _ _ hb.symm)
theorem pQ {o:dv} {a:Nat} (h:o.addr=some a) {E:Nat→Option AV} {M:Nat→Option (List AV)} {sh:Sh} {ah:aN} {r:Out} {b off:Nat} (hE:E a=some (.br b off))
   (hr:dj orc o E M sh ah=some r):r.cells=none∧r.ah=ah∧∃g,DS b g∧r.sh=g sh∧∀sh',sh'[b]?=sh[b]?→dj orc o E M sh' ah=some { r with sh:=g sh' }:=by
 obtain ⟨rest,h1,h2⟩:=vt h;unfold dj at hr ⊢;split at hr
 · simp at hr
 · simp at hr;subst hr;exact ⟨rfl,rfl,id,.inl rfl,rfl,fun sh' _=>rfl⟩
 · rw [h1] at hr ⊢;simp only [jW,GJ,hE] at hr ⊢;cases hv:jW E rest with
   | none=>rw [hv] at hr;simp at hr
   | some vs=>
     rw [hv] at hr;simp only at hr ⊢;rcases h2 with ⟨sz,ag,h2⟩ | ⟨sz,h2⟩
     · rw [h2] at hr ⊢;obtain ⟨p,x,hp,rfl,hor⟩:=kg hr;refine ⟨rfl,rfl,id,.inl rfl,rfl,fun sh' hs=>?_⟩;cases vs with
       | cons _ _=>simp at hp
       | nil=>
         simp at hp;rcases hor with ⟨cs,rfl,hx⟩ | ⟨b',off',cs,rfl,hcs,hm,hx⟩
         · simp at hp
         · simp at hp;obtain ⟨rfl,rfl⟩:=hp;simp [exec,hs,hcs,hm,hx]
     · rw [h2] at hr ⊢;obtain ⟨b',off',v,cs,hp,hcs,h0,h1',h2',h3,h4,rfl⟩:=iz hr;simp at hp;obtain ⟨⟨rfl,rfl⟩,rfl⟩:=hp;refine ⟨rfl,rfl,fun s=>s.set b (some (bn cs off (cY v))),.inr ⟨_,rfl⟩,rfl,fun sh' hs=>?_⟩;simp only [exec,hs,hcs];rw [if_pos ⟨h0,h1',h2',h3,h4⟩]
def Oj (F:Nat→Option AV) (x y:dv):Prop:=indep x y=true ∨
 ((∀d,x.dst=some d→d∉y.looks∧y.dst≠some d)∧(∀d,y.dst=some d→d∉x.looks)∧∃a b,x.addr=some a∧y.addr=some b∧apart (F a) (F b)=true)
theorem t8 {x y:Option AV} (h:apart x y=true):∃b o b' o',x=some (.br b o)∧y=some (.br b' o')∧b≠b':=by
 unfold apart at h;split at h
 · rename_i b o b' o';exact ⟨b,o,b',o',rfl,rfl,by simpa using h⟩
 · cases h
theorem GK {F:Nat→Option AV} {x y:dv} (h:Oj F x y) {st st1 st2:St} (hx:∀a,x.addr=some a→look st.env a=F a) (hy:∀a,y.addr=some a→look st1.env a=F a)
   (h1:eg orc x st=some st1) (h2:eg orc y st1=some st2) :
   ∃st1' st2',eg orc y st=some st1'∧eg orc x st1'=some st2'∧jF st2' st2∧(∀a,y.addr=some a→look st.env a=F a)∧(∀a,x.addr=some a→look st1'.env a=F a):=by
 have hside:(∀d,x.dst=some d→d∉y.looks∧y.dst≠some d)∧(∀d,y.dst=some d→d∉x.looks):=by
   rcases h with h | h
   · exact ⟨(oL h).1,(oL h).2.1⟩
   · exact ⟨h.1,h.2.1⟩
 have hyst:∀a,y.addr=some a→look st.env a=F a:=by
   intro a ha;have h3:=hy a ha;rw [ez,Option.map_eq_some_iff] at h1;obtain ⟨r1,_,rfl⟩:=h1;rw [←h3];simp only [eP];rw [if_neg];intro e;exact (hside.1 a e).1 (rD ha)
 have hxst:∀st1',eg orc y st=some st1'→∀a,x.addr=some a→look st1'.env a=F a:=by
   intro st1' h3 a ha;rw [ez,Option.map_eq_some_iff] at h3;obtain ⟨r1,_,rfl⟩:=h3;rw [←hx a ha];simp only [eP];rw [if_neg];intro e;exact hside.2 a e (rD ha)
 rcases h with h | ⟨hd1,hd2,a,b,ha,hb,hap⟩
 · obtain ⟨st1',st2',g1,g2,g3⟩:=JQ h h1 h2;exact ⟨st1',st2',g1,g2,g3,hyst,hxst st1' g1⟩
 · obtain ⟨ba,oa,bb,ob,fa,fb,hne⟩:=t8 hap;have hE1:look st.env a=some (.br ba oa):=(hx a ha).trans fa;have hE2:look st.env b=some (.br bb ob):=(hyst b hb).trans fb;have h1':=h1;rw [ez,Option.map_eq_some_iff] at h1 h2;obtain ⟨r1,hr1,rfl⟩:=h1;obtain ⟨r2,hr2,rfl⟩:=h2;obtain ⟨c1,t1,gx,tx,s1,k1⟩:=pQ ha hE1 hr1;simp only at hr2;have hr2':dj orc y (look st.env) (look st.mem) (gx st.sh) st.ah=some r2:=by
     rw [←hr2,s1,t1];refine gP (fun t ht=>?_) (fun k hk=>?_)
     · rw [eP,if_neg];intro e;exact (hd1 t e).1 ht
     · rw [xJ hb] at hk;cases hk
   obtain ⟨c2,t2,gy,ty,s2,k2⟩:=pQ hb hE2 hr2';have hy0:=k2 st.sh (tx.other hne st.sh).symm;have hy1:eg orc y st=some { env:=fY st.env y.dst r2.val,mem:=e_ st.mem y.op.key r2.cells,sh:=gy st.sh,ah:=r2.ah }:=by
     rw [ez,hy0];rfl
   have hx0:dj orc x (look (fY st.env y.dst r2.val)) (look (e_ st.mem y.op.key r2.cells)) (gy st.sh) r2.ah=some { r1 with sh:=gx (gy st.sh) }:=by
     rw [←k1 (gy st.sh) (ty.other (Ne.symm hne) st.sh),t2];refine gP (fun t ht=>?_) (fun k hk=>?_)
     · rw [eP,if_neg];intro e;exact hd2 t e ht
     · rw [xJ ha] at hk;cases hk
   refine ⟨_,{ env:=fY (fY st.env y.dst r2.val) x.dst r1.val,mem:=e_ (e_ st.mem y.op.key r2.cells) x.op.key r1.cells,sh:=gx (gy st.sh),ah:=r1.ah },hy1,?_,?_,hyst,hxst _ hy1⟩
   · rw [ez,hx0];rfl
   · refine ⟨fun t=>?_,fun t=>?_,?_,?_⟩
     · simp only [eP];by_cases hx:x.dst=some t
       · rw [if_pos hx,if_neg (hd1 t hx).2,if_pos hx]
       · rw [if_neg hx,if_neg hx]
     · simp only [c1,c2,fJ]
     · simp only [s2];exact tx.comm ty hne st.sh
     · simp only [t1,t2]
variable {ops:Array Oper} {as:List dv} {R:St→Prop} {F:Nat→Option AV}
def xK (orc:ep) (ops:Array Oper) (as:List dv) (F:Nat→Option AV) (R:St→Prop):Nat→Array Bool→St→Prop
 | 0,listed,st=>Region.ready .any ops listed=[]∧R st
 | fuel+1,listed,st=>(Region.ready .any ops listed=[]→R st) ∧
   ∀i∈Region.ready .any ops listed,∃ao st',as[i]?=some ao∧(∀a,ao.addr=some a→look st.env a=F a)∧eg orc ao st=some st'∧xK orc ops as F R fuel (listed.setIfInBounds i true) st'
theorem t_ (hR:∀x y,jF x y→R x→R y):∀{fuel:Nat} {listed:Array Bool} {x y:St},jF x y→xK orc ops as F R fuel listed x→xK orc ops as F R fuel listed y
 | 0,_,_,_,hl,h=>⟨h.1,hR _ _ hl h.2⟩
 | fuel+1,_,_,_,hl,h=>⟨fun h0=>hR _ _ hl (h.1 h0),fun i hi=>by
     obtain ⟨ao,st',h1,h6,h2,h3⟩:=h.2 i hi;obtain ⟨y',h4,h5⟩:=DR hl h2;exact ⟨ao,y',h1,fun a ha=>(hl.env a).symm.trans (h6 a ha),h4,t_ hR h5 h3⟩⟩
def Down (ops:Array Oper) (listed:Array Bool):Prop:=∀k o,ops[k]?=some o→listed.getD k false=true→∀e∈o.after,Region.binds .any e=true→listed.getD e.on false=true
theorem Down.step {listed:Array Bool} (h:Down ops listed) {i:Nat} (hi:i∈Region.ready .any ops listed):Down ops (listed.setIfInBounds i true):=by
 intro k o ho hk e he hb;by_cases hik:i=k
 · subst hik;obtain ⟨_,o',ho',hall⟩:=mem_ready.1 hi;rw [ho] at ho';cases ho';exact getD_set_true (hall e he hb)
 · rw [getD_set_ne false hik] at hk;exact getD_set_true (h k o ho hk e he hb)
theorem Aa (hR:∀x y,jF x y→R x→R y) {i:Nat} {ai:dv} (hai:as[i]?=some ai) {waits:Nat→Bool}
   (hwait:∀(listed:Array Bool),Down ops listed→∀j∈Region.ready .any ops listed,waits j=true→listed.getD i false=true) :
   ∀(fuel:Nat) (listed:Array Bool) (st st1:St),Down ops listed →
     (∀j aj,as[j]?=some aj→j≠i→listed.getD j true=false→waits j=false→Oj F ai aj)→(∀a,ai.addr=some a→look st.env a=F a) →
     i∈Region.ready .any ops listed→eg orc ai st=some st1→xK orc ops as F R fuel (listed.setIfInBounds i true) st1→xK orc ops as F R (fuel+1) listed st:=by
 intro fuel;induction fuel with
 | zero=>
   intro listed st st1 hdown hfree haddr hi hev H;refine ⟨fun h=>(by rw [h] at hi;cases hi),fun j hj=>?_⟩;by_cases hji:j=i
   · subst hji;exact ⟨ai,st1,hai,haddr,hev,H⟩
   · have:=ready_mono hj hji;rw [H.1] at this;cases this
 | succ fuel ih=>
   intro listed st st1 hdown hfree haddr hi hev H;refine ⟨fun h=>(by rw [h] at hi;cases hi),fun j hj=>?_⟩;by_cases hji:j=i
   · subst hji;exact ⟨ai,st1,hai,haddr,hev,H⟩
   · obtain ⟨aj,st2,h1,h6,h2,h3⟩:=H.2 j (ready_mono hj hji);obtain ⟨hun,_⟩:=mem_ready.1 hj;have hw:waits j=false:=by
       cases hw:waits j with
       | false=>rfl
       | true=>
         have h1:=hwait listed hdown j hj hw;have h0:=(mem_ready.1 hi).1;rcases Nat.lt_or_ge i listed.size with h' | h'
         · simp [h'] at h0 h1;rw [h0] at h1;cases h1
         · simp [Array.getElem?_eq_none h'] at h1
     obtain ⟨st1',st2',g1,g2,g3,g4,g5⟩:=GK (hfree j aj h1 hji hun hw) haddr h6 hev h2;refine ⟨aj,st1',h1,g4,g1,ih (listed.setIfInBounds j true) st1' st2' (hdown.step hj) ?_ g5 (ready_mono hi (Ne.symm hji)) g2 ?_⟩
     · intro k ak hk hki hun' hwk;refine hfree k ak hk hki ?_ hwk;by_cases hjk:j=k
       · subst hjk;exact hun
       · rw [getD_set_ne true hjk] at hun';exact hun'
     · rw [Array.setIfInBounds_comm _ _ hji];exact t_ hR g3.symm h3
theorem nO (acc:List Nat) (i:Nat):∀(l:List Edge) (s:Nat),
   (l.foldl (fun s e=>if Region.binds .any e then s ||| 2 ^ e.on ||| acc.getD e.on 0 else s) s).testBit i=true →
   s.testBit i=true∨∃e∈l,Region.binds .any e=true∧(e.on=i∨(acc.getD e.on 0).testBit i=true)
 | [],s,h=>.inl h
 | e::l,s,h=>by
   simp only [List.foldl_cons] at h;rcases nO acc i l _ h with h1 | ⟨e',h2,h3⟩
   · split at h1
     · rename_i hb;rw [Nat.testBit_or,Nat.testBit_or,Bool.or_eq_true,Bool.or_eq_true] at h1;rcases h1 with (h1 | h1) | h1
       · exact .inl h1
       · refine .inr ⟨e,by simp,hb,.inl ?_⟩;rw [Nat.testBit_two_pow] at h1;simpa using h1
       · exact .inr ⟨e,by simp,hb,.inr h1⟩
     · exact .inl h1
   · exact .inr ⟨e',by simp [h2],h3⟩
theorem rE:∀(l:List Oper) (acc:List Nat),(lp l acc).length=acc.length+l.length∧(∀j,j<acc.length→(lp l acc).getD j 0=acc.getD j 0) ∧
   ∀k o,l[k]?=some o→∀i,((lp l acc).getD (acc.length+k) 0).testBit i=true→∃e∈o.after.toList,Region.binds .any e=true∧(e.on=i∨((lp l acc).getD e.on 0).testBit i=true)
 | [],acc=>⟨by simp [lp],fun j _=>rfl,fun k o h=>by simp at h⟩
 | o::l,acc=>by
   simp only [lp];obtain ⟨h1,h2,h3⟩:=rE l (acc++[o.after.toList.foldl (fun s e=>if Region.binds .any e then s ||| 2 ^ e.on ||| acc.getD e.on 0 else s) 0]);refine ⟨by rw [h1];simp;omega,fun j hj=>?_,fun k o' ho i hi=>?_⟩
   · rw [h2 j (by simp;omega)];simp [List.getD,List.getElem?_append_left hj]
   · cases k with
     | zero=>
       simp at ho;subst ho;rw [Nat.add_zero,h2 acc.length (by simp)] at hi;have:(acc++[o.after.toList.foldl (fun s e=>if Region.binds .any e then s ||| 2 ^ e.on ||| acc.getD e.on 0 else s) 0]).getD acc.length 0 =
           o.after.toList.foldl (fun s e=>if Region.binds .any e then s ||| 2 ^ e.on ||| acc.getD e.on 0 else s) 0:=by
         simp [List.getD]
       rw [this] at hi;rcases nO acc i _ _ hi with h | ⟨e,h4,h5,h6⟩
       · simp at h
       · refine ⟨e,h4,h5,JH h6 fun h=>?_⟩;have hlt:e.on<acc.length:=by
           rcases Nat.lt_or_ge e.on acc.length with h' | h'
           · exact h'
           · simp [List.getD,List.getElem?_eq_none h'] at h
         rw [h2 e.on (by simp;omega)];simpa [List.getD,List.getElem?_append_left hlt] using h
     | succ k=>
       have:=h3 k o' (by simpa using ho) i (by simpa [Nat.add_assoc,Nat.add_comm 1 k] using hi);exact this
theorem jh:∀(l:List Oper) (i:Nat),hZ i l=true→∀k o,l[k]?=some o→∀e∈o.after,Region.binds .any e=true→e.on<i+k
 | [],_,_,k,o,h,_,_,_=>by simp at h
 | o::l,i,hd,k,o',ho,e,he,hb=>by
   simp only [hZ,Bool.and_eq_true,List.all_eq_true] at hd;cases k with
   | zero=>
     simp at ho;subst ho;have:=hd.1 e (by simpa using he);simpa [hb] using this
   | succ k=>
     have:=jh l (i+1) hd.2 k o' (by simpa using ho) e he hb;omega
theorem vu {l:List Oper} (hl:ops.toList=l) (hd:hZ 0 l=true) {listed:Array Bool} (hdown:Down ops listed) (i:Nat):∀(j:Nat) (o:Oper),ops[j]?=some o →
   (∀e∈o.after,Region.binds .any e=true→listed.getD e.on false=true)→((lp l []).getD j 0).testBit i=true→listed.getD i false=true:=by
 intro j;induction j using Nat.strongRecOn with
 | _ j ih=>
   intro o ho hall hbit;have hlo:l[j]?=some o:=by rw [←hl];simpa using ho
   obtain ⟨e,h1,h2,h3⟩:=(rE l []).2.2 j o hlo i (by simpa using hbit);have he:e∈o.after:=by simpa using h1
   rcases h3 with h3 | h3
   · rw [←h3];exact hall e he h2
   · have hlt:=jh l 0 hd j o hlo e he h2;have hlt':e.on<j:=(by omega);have hjs:j<ops.size:=(Array.getElem?_eq_some_iff.1 ho).1;have hoo:ops[e.on]?=some (ops[e.on]'(by omega)):=Array.getElem?_eq_getElem (by omega);exact ih e.on hlt' _ hoo (fun e' he' hb'=>hdown e.on _ hoo (hall e he h2) e' he' hb') h3
theorem nP {ds:List (Nat×Nat)} {ms:List Nat} {i:Nat} {x:dv}:∀(l:List dv) (j:Nat),ql ds ms i x j l=true→∀k y,l[k]?=some y→(ms.getD (j+k) 0).testBit i=true∨(indep x y || wO ds x y)=true
 | [],_,_,k,y,h=>by simp at h
 | z::l,j,hp,k,y,hy=>by
   simp only [ql,Bool.and_eq_true,Bool.or_eq_true] at hp;cases k with
   | zero=>simp at hy;subst hy;simpa [or_assoc] using hp.1
   | succ k=>
     have:=nP l (j+1) hp.2 k y (by simpa using hy)
     rwa [show j+1+k=j+(k+1) from by omega] at this
theorem mG {ds:List (Nat×Nat)} {ms:List Nat}:∀(l:List dv) (i:Nat),lq ds ms i l=true→∀k m x y,k<m→l[k]?=some x→l[m]?=some y→(ms.getD (i+m) 0).testBit (i+k)=true∨(indep x y || wO ds x y)=true
 | [],_,_,k,m,x,y,_,h,_=>by simp at h
 | z::l,i,hp,k,m,x,y,hkm,hx,hy=>by
   simp only [lq,Bool.and_eq_true] at hp;cases m with
   | zero=>omega
   | succ m=>
     cases k with
     | zero=>
       simp at hx;subst hx;have:=nP l (i+1) hp.1 m y (by simpa using hy)
       rwa [show i+1+m=i+(m+1) from by omega] at this
     | succ k=>
       have:=mG l (i+1) hp.2 k m x y (by omega) (by simpa using hx) (by simpa using hy)
       rwa [show i+1+m=i+(m+1) from by omega,show i+1+k=i+(k+1) from by omega] at this
theorem qg {n:Nat} (hd:hZ 0 ops.toList=true) {k:Nat} {o:Oper} {listed:Array Bool} (hs:listed.size=n) (hl:∀j,j<n→listed[j]?=some (decide (j<k))) (hn:ops.size=n) (ho:ops[k]?=some o) :
   k∈Region.ready .any ops listed:=by
 have hk:k<ops.size:=(Array.getElem?_eq_some_iff.1 ho).1;rw [mem_ready];refine ⟨by simp [hl k (by omega)],o,ho,fun e he hb=>?_⟩;have:=jh _ 0 hd k o (by simpa using ho) e he hb;simp [hl e.on (by omega)];omega
theorem DT {ds:List (Nat×Nat)} {x y:dv} (h:wO ds x y=true) :
   (∀d,x.dst=some d→d∉y.looks∧y.dst≠some d)∧(∀d,y.dst=some d→d∉x.looks)∧∃a b,x.addr=some a∧y.addr=some b∧(a,b)∈ds:=by
 simp only [wO,Bool.and_eq_true] at h;obtain ⟨⟨h1,h2⟩,h3⟩:=h;refine ⟨fun d hd=>?_,fun d hd=>?_,?_⟩
 · rw [hd] at h1;simp at h1;exact h1
 · rw [hd] at h2;simpa using h2
 · split at h3
   · rename_i a b ha hb;exact ⟨a,b,ha,hb,by simpa using h3⟩
   · cases h3
theorem rG {env:List (Nat×AV)}:∀{ds:List (Nat×Nat)},iE env ds=true→∀a b,(a,b)∈ds→apart (look env a) (look env b)=true
 | [],_,a,b,h=>by simp at h
 | (a',b')::r,h,a,b,hm=>by
   simp only [iE,Bool.and_eq_true] at h;simp only [List.mem_cons,Prod.mk.injEq] at hm;rcases hm with ⟨rfl,rfl⟩ | hm
   · exact h.1
   · exact rG h.2 a b hm
theorem rH {t:Nat}:∀{l:List dv} {st st':St},l.all (fun o=>o.dst != some t)=true→bQ orc l st=some st'→look st'.env t=look st.env t
 | [],st,st',_,h=>by simp [bQ] at h;subst h;rfl
 | o::l,st,st',hl,h=>by
   simp only [List.all_cons,Bool.and_eq_true,bne_iff_ne,ne_eq] at hl;simp only [bQ] at h;split at h
   · simp at h
   · rename_i st1 h1;rw [rH (by simpa using hl.2) h];rw [ez,Option.map_eq_some_iff] at h1;obtain ⟨r1,_,rfl⟩:=h1;simp only [eP];rw [if_neg hl.1]
theorem xL {ds:List (Nat×Nat)} (hR:∀x y,jF x y→R x→R y) (hd:hZ 0 ops.toList=true) (hp:lq ds (lp ops.toList []) 0 as=true) (hlen:as.length=ops.size)
   (hF:∀a b,(a,b)∈ds→apart (F a) (F b)=true) :
   ∀(l:List dv) (k:Nat) (listed:Array Bool) (st st':St),(∀j,l[j]?=as[k+j]?)→l.length+k=ops.size→listed.size=ops.size→(∀j,j<ops.size→listed[j]?=some (decide (j<k)))→Down ops listed →
     uU l=true→(∀a,F a=look st'.env a)→bQ orc l st=some st'→R st'→xK orc ops as F R l.length listed st
 | [],k,listed,st,st',_,hk,hs,hl,_,_,_,hev,hr=>by
   simp [bQ] at hev;subst hev;refine ⟨?_,hr⟩;rw [List.eq_nil_iff_forall_not_mem];intro i hi;obtain ⟨h1,o,ho,_⟩:=mem_ready.1 hi;have hi':i<ops.size:=(Array.getElem?_eq_some_iff.1 ho).1;simp at hk;simp [hl i hi'] at h1;omega
 | x::l,k,listed,st,st',hlk,hk,hs,hl,hdown,hlt,hFe,hev,hr=>by
   have hev0:=hev;simp only [uU,Bool.and_eq_true] at hlt;simp only [bQ] at hev;split at hev
   · simp at hev
   · rename_i st1 hst1;simp only [List.length_cons] at hk ⊢;have hx:as[k]?=some x:=by simpa using (hlk 0).symm
     have hks:k<ops.size:=(by omega);have ho:ops[k]?=some ops[k]:=Array.getElem?_eq_getElem hks;have hready:=qg hd hs hl rfl ho;refine Aa hR hx (waits:=fun j=>((lp ops.toList []).getD j 0).testBit k) ?_ l.length listed st st1 hdown ?_ (fun a ha=>?_) hready hst1 ?_
     · intro listed' hdown' j hj hw;obtain ⟨_,o,hoj,hall⟩:=mem_ready.1 hj;exact vu rfl hd hdown' k j o hoj hall hw
     · intro j aj hj hjk hun hw;have hj':j<ops.size:=by rw [←hlen];exact (List.getElem?_eq_some_iff.1 hj).1
       have hkj:k<j:=by
         simp [hl j hj'] at hun;omega
       have:=mG as 0 hp k j x aj hkj hx hj;simp only [Nat.zero_add] at this;rcases this with h | h
       · rw [h] at hw;simp at hw
       · rcases Bool.or_eq_true _ _ |>.mp h with h | h
         · exact .inl h
         · obtain ⟨f1,f2,a,b,f3,f4,f5⟩:=DT h;exact .inr ⟨f1,f2,a,b,f3,f4,hF a b f5⟩
     · have h1:=hlt.1;rw [ha] at h1;rw [hFe a];exact (rH h1 hev0).symm
     · refine xL hR hd hp hlen hF l (k+1) (listed.setIfInBounds k true) st1 st' (fun j=>?_) (by omega) (by simp [hs]) (fun j hj=>?_) (hdown.step hready) hlt.2 hFe hev hr
       · have:=hlk (j+1);rw [show k+(j+1)=k+1+j from by omega] at this;simpa using this
       · by_cases hkj:k=j
         · subst hkj;simp [hs,hks]
         · rw [Array.getElem?_setIfInBounds_ne hkj,hl j hj];congr 1;simp;omega
end
section
variable {n0:Nat} {P:Program} {ns:Names}
theorem gT.MD {n0 N:Nat} {G:Gh} {x y:St} {a:Act} {w:World} (h:gT (num ns) n0 N G x a w) (hl:jF x y):gT (num ns) n0 N G y a w:=by
 refine ⟨⟨h.env.size,fun t v ht=>h.env.env t v (by rw [hl.env];exact ht)⟩,?_,h.marks⟩;have hi:=h.inv;rw [hl.sh,hl.ah] at hi;exact { hi with
   dq:=fun d cells hd=>hi.dq d cells (by rw [hl.mem];exact hd)
   gN:=fun d b hd=>by rw [←hl.mem];exact hi.gN d b hd }
theorem gT.drew {n0 N:Nat} {G:Gh} {x:St} {a:Act} {w:World} (h:gT (num ns) n0 N G x a w):gT (num ns) n0 N G x a w.drew:=⟨h.env,h.inv.drew,h.marks.pn (cq.drew G w) rfl⟩
end
end Go.Ab
