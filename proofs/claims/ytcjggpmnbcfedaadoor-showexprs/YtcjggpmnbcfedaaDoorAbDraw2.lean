import Derived.Test.YtcjggpmnbcfedaaDoorAbDraw
/-
  Two operations that have nothing to do with one another may change places; so the order of the text serves every order.
-/
set_option linter.unusedVariables false
set_option linter.unusedSimpArgs false
set_option maxRecDepth 100000
set_option maxHeartbeats 8000000
namespace Go.Ab
section
variable {orc:dC}
theorem xd {x y:dd} (h:indep x y=true) :
   (∀d,x.dst=some d→d∉y.looks∧y.dst≠some d)∧(∀d,y.dst=some d→d∉x.looks)∧(x.op.e6=false∨y.op.e6=false∨(x.op.nD=true∧y.op.nD=true))∧(x.op.d4=false∨y.op.d4=false) ∧
   (∀k,x.op.key=some k→y.op.key=some k→x.op.fc=false∧y.op.fc=false):=by
 simp only [indep,Bool.and_eq_true,Bool.or_eq_true,Bool.not_eq_true',Bool.and_eq_false_iff] at h
 obtain ⟨⟨⟨⟨h1,h2⟩,h3⟩,h4⟩,h5⟩:=h
 refine ⟨fun d hd=>?_,fun d hd=>?_,h3.elim (fun h=>h.elim .inl fun h=>.inr (.inl h)) fun h=>.inr (.inr h),h4,fun k hx hy=>?_⟩
 · rw [hd] at h1
   simp at h1
   exact h1
 · rw [hd] at h2
   simpa using h2
 · rw [hx,hy] at h5
   simp at h5
   exact h5
theorem Cs {x y:dd} (h:indep x y=true) {st st1 st2:St} (h1:dp orc x st=some st1) (h2:dp orc y st1=some st2) :
   ∃st1' st2',dp orc y st=some st1'∧dp orc x st1'=some st2'∧gK st2' st2:=by
 obtain ⟨hd1,hd2,hS,hT,hK⟩:=xd h
 rw [gJ,Option.map_eq_some_iff] at h1 h2
 obtain ⟨r1,hr1,rfl⟩:=h1
 obtain ⟨r2,hr2,rfl⟩:=h2
 simp only at hr2
 have hr2':cW orc y (look st.env) (look st.mem) r1.sh r1.aa=some r2:=by
   rw [←hr2]
   refine hZ (fun t ht=>?_) (fun k hk=>?_)
   · rw [i6,if_neg]
     intro e
     exact (hd1 t e).1 ht
   · rw [i7]
     split
     · rename_i e
       have:=ki (hK k e hk).1 (by rw [e];simp) hr1
       rw [this]
     · rfl
 obtain ⟨sh',ts',hy,hsh,hts⟩:∃sh' ts',cW orc y (look st.env) (look st.mem) st.sh st.aa=some { r2 with sh:=sh',aa:=ts' } ∧
     ((x.op.e6=false∧sh'=r2.sh∧r1.sh=st.sh)∨(sh'=st.sh∧r2.sh=r1.sh)) ∧
     ((x.op.d4=false∧ts'=r2.aa∧r1.aa=st.aa)∨(y.op.d4=false∧ts'=st.aa∧r2.aa=r1.aa)):=by
   have stepS:∃sh',cW orc y (look st.env) (look st.mem) st.sh r1.aa=some { r2 with sh:=sh' }∧((x.op.e6=false∧sh'=r2.sh∧r1.sh=st.sh)∨(sh'=st.sh∧r2.sh=r1.sh)):=by
     rcases hS with hS | hS | ⟨hS,hS'⟩
     · have e:=(mz hS hr1).1
       exact ⟨r2.sh,by rw [←e];exact hr2',.inl ⟨hS,rfl,e⟩⟩
     · obtain ⟨e,f⟩:=mz hS hr2'
       exact ⟨st.sh,f st.sh,.inr ⟨rfl,e⟩⟩
     · have e:=qF hS hr1
       have e2:=qF hS' hr2'
       exact ⟨r2.sh,by rw [←e];exact hr2',.inr ⟨e2.trans e,e2⟩⟩
   obtain ⟨sh',hy1,hsh⟩:=stepS
   rcases hT with hT | hT
   · have e:=(kh hT hr1).1
     exact ⟨sh',r2.aa,by rw [←e];exact hy1,hsh,.inl ⟨hT,rfl,e⟩⟩
   · obtain ⟨_,f⟩:=kh hT hy1
     have e:=(kh hT hr2').1
     exact ⟨sh',st.aa,f st.aa,hsh,.inr ⟨hT,rfl,e⟩⟩
 refine ⟨{ env:=ep st.env y.dst r2.val,mem:=dZ st.mem y.op.key r2.cells,sh:=sh',aa:=ts' },?_⟩
 have hx:cW orc x (look (ep st.env y.dst r2.val)) (look (dZ st.mem y.op.key r2.cells)) st.sh st.aa=some r1:=by
   rw [←hr1]
   refine hZ (fun t ht=>?_) (fun k hk=>?_)
   · rw [i6,if_neg]
     intro e
     exact hd2 t e ht
   · rw [i7]
     split
     · rename_i e
       have:=ki (hK k hk e).2 (by rw [e];simp) hr2'
       rw [this]
     · rfl
 obtain ⟨r1',hx',hval,hcells,hsh2,hts2⟩:∃r1',cW orc x (look (ep st.env y.dst r2.val)) (look (dZ st.mem y.op.key r2.cells)) sh' ts'=some r1'∧r1'.val=r1.val∧r1'.cells=r1.cells∧r1'.sh=r2.sh∧r1'.aa=r2.aa:=by
   have stepS:∃r1',cW orc x (look (ep st.env y.dst r2.val)) (look (dZ st.mem y.op.key r2.cells)) sh' st.aa=some r1'∧r1'.val=r1.val∧r1'.cells=r1.cells∧r1'.sh=r2.sh∧r1'.aa=r1.aa:=by
     rcases hsh with ⟨hS,rfl,_⟩ | ⟨rfl,e⟩
     · exact ⟨_,(mz hS hx).2 r2.sh,rfl,rfl,rfl,rfl⟩
     · exact ⟨r1,hx,rfl,rfl,e.symm,rfl⟩
   obtain ⟨ra,ha,a1,a2,a3,a4⟩:=stepS
   rcases hts with ⟨hT,rfl,_⟩ | ⟨_,rfl,e⟩
   · exact ⟨_,(kh hT ha).2 r2.aa,a1,a2,a3,rfl⟩
   · exact ⟨ra,ha,a1,a2,a3,a4.trans e.symm⟩
 refine ⟨{ env:=ep (ep st.env y.dst r2.val) x.dst r1'.val,mem:=dZ (dZ st.mem y.op.key r2.cells) x.op.key r1'.cells,sh:=r1'.sh,aa:=r1'.aa },?_,?_,?_⟩
 · rw [gJ,hy];rfl
 · rw [gJ,hx'];rfl
 · refine ⟨fun t=>?_,fun t=>?_,hsh2,hts2⟩
   · simp only [i6,hval]
     by_cases hx:x.dst=some t
     · rw [if_pos hx,if_neg (hd1 t hx).2,if_pos hx]
     · rw [if_neg hx,if_neg hx]
   · simp only [i7,hcells]
     by_cases hx:x.op.key=some t
     · rw [if_pos hx,if_pos hx]
       by_cases hy:y.op.key=some t
       · rw [if_pos hy,if_pos hy]
         have e1:=ki (hK t hx hy).1 (by rw [hx];simp) hr1
         have e2:=ki (hK t hx hy).2 (by rw [hy];simp) hr2'
         rw [e1,e2]
       · rw [if_neg hy,if_neg hy]
     · rw [if_neg hx,if_neg hx]
variable {ops:Array Oper} {as:List dd} {R:St→Prop}
def qG (orc:dC) (ops:Array Oper) (as:List dd) (R:St→Prop):Nat→Array Bool→St→Prop
 | 0,listed,st=>Region.ready .any ops listed=[]∧R st
 | fuel+1,listed,st=>(Region.ready .any ops listed=[]→R st) ∧
   ∀i∈Region.ready .any ops listed,∃ao st',as[i]?=some ao∧dp orc ao st=some st'∧qG orc ops as R fuel (listed.setIfInBounds i true) st'
theorem nQ (hR:∀x y,gK x y→R x→R y):∀{fuel:Nat} {listed:Array Bool} {x y:St},gK x y→qG orc ops as R fuel listed x→qG orc ops as R fuel listed y
 | 0,_,_,_,hl,h=>⟨h.1,hR _ _ hl h.2⟩
 | fuel+1,_,_,_,hl,h=>⟨fun h0=>hR _ _ hl (h.1 h0),fun i hi=>by
     obtain ⟨ao,st',h1,h2,h3⟩:=h.2 i hi
     obtain ⟨y',h4,h5⟩:=xa hl h2
     exact ⟨ao,y',h1,h4,nQ hR h5 h3⟩⟩
def Down (ops:Array Oper) (listed:Array Bool):Prop:=∀k o,ops[k]?=some o→listed.getD k false=true→∀e∈o.after,Region.binds .any e=true→listed.getD e.on false=true
theorem Down.step {listed:Array Bool} (h:Down ops listed) {i:Nat} (hi:i∈Region.ready .any ops listed):Down ops (listed.setIfInBounds i true):=by
 intro k o ho hk e he hb
 by_cases hik:i=k
 · subst hik
   obtain ⟨_,o',ho',hall⟩:=mem_ready.1 hi
   rw [ho] at ho';cases ho'
   exact getD_set_true (hall e he hb)
 · rw [getD_set_ne false hik] at hk
   exact getD_set_true (h k o ho hk e he hb)
theorem sQ (hR:∀x y,gK x y→R x→R y) {i:Nat} {ai:dd} (hai:as[i]?=some ai) {waits:Nat→Bool}
   (hwait:∀(listed:Array Bool),Down ops listed→∀j∈Region.ready .any ops listed,waits j=true→listed.getD i false=true) :
   ∀(fuel:Nat) (listed:Array Bool) (st st1:St),Down ops listed →
     (∀j aj,as[j]?=some aj→j≠i→listed.getD j true=false→waits j=false→indep ai aj=true) →
     i∈Region.ready .any ops listed→dp orc ai st=some st1→qG orc ops as R fuel (listed.setIfInBounds i true) st1→qG orc ops as R (fuel+1) listed st:=by
 intro fuel
 induction fuel with
 | zero=>
   intro listed st st1 hdown hfree hi hev H
   refine ⟨fun h=>(by rw [h] at hi;cases hi),fun j hj=>?_⟩
   by_cases hji:j=i
   · subst hji;exact ⟨ai,st1,hai,hev,H⟩
   · have:=ready_mono hj hji
     rw [H.1] at this
     cases this
 | succ fuel ih=>
   intro listed st st1 hdown hfree hi hev H
   refine ⟨fun h=>(by rw [h] at hi;cases hi),fun j hj=>?_⟩
   by_cases hji:j=i
   · subst hji;exact ⟨ai,st1,hai,hev,H⟩
   · obtain ⟨aj,st2,h1,h2,h3⟩:=H.2 j (ready_mono hj hji)
     obtain ⟨hun,_⟩:=mem_ready.1 hj
     have hw:waits j=false:=by
       cases hw:waits j with
       | false=>rfl
       | true=>
         have h1:=hwait listed hdown j hj hw
         have h0:=(mem_ready.1 hi).1
         rcases Nat.lt_or_ge i listed.size with h' | h'
         · simp [h'] at h0 h1;rw [h0] at h1;cases h1
         · simp [Array.getElem?_eq_none h'] at h1
     obtain ⟨st1',st2',g1,g2,g3⟩:=Cs (hfree j aj h1 hji hun hw) hev h2
     refine ⟨aj,st1',h1,g1,ih (listed.setIfInBounds j true) st1' st2' (hdown.step hj) ?_ (ready_mono hi (Ne.symm hji)) g2 ?_⟩
     · intro k ak hk hki hun' hwk
       refine hfree k ak hk hki ?_ hwk
       by_cases hjk:j=k
       · subst hjk;exact hun
       · rw [getD_set_ne true hjk] at hun';exact hun'
     · rw [Array.setIfInBounds_comm _ _ hji]
       exact nQ hR g3.symm h3
theorem kj (acc:List Nat) (i:Nat):∀(l:List Edge) (s:Nat),
   (l.foldl (fun s e=>if Region.binds .any e then s ||| 2 ^ e.on ||| acc.getD e.on 0 else s) s).testBit i=true →
   s.testBit i=true∨∃e∈l,Region.binds .any e=true∧(e.on=i∨(acc.getD e.on 0).testBit i=true)
 | [],s,h=>.inl h
 | e::l,s,h=>by
   simp only [List.foldl_cons] at h
   rcases kj acc i l _ h with h1 | ⟨e',h2,h3⟩
   · split at h1
     · rename_i hb
       rw [Nat.testBit_or,Nat.testBit_or,Bool.or_eq_true,Bool.or_eq_true] at h1
       rcases h1 with (h1 | h1) | h1
       · exact .inl h1
       · refine .inr ⟨e,by simp,hb,.inl ?_⟩
         rw [Nat.testBit_two_pow] at h1
         simpa using h1
       · exact .inr ⟨e,by simp,hb,.inr h1⟩
     · exact .inl h1
   · exact .inr ⟨e',by simp [h2],h3⟩
theorem mA:∀(l:List Oper) (acc:List Nat),(iz l acc).length=acc.length+l.length∧(∀j,j<acc.length→(iz l acc).getD j 0=acc.getD j 0) ∧
   ∀k o,l[k]?=some o→∀i,((iz l acc).getD (acc.length+k) 0).testBit i=true→∃e∈o.after.toList,Region.binds .any e=true∧(e.on=i∨((iz l acc).getD e.on 0).testBit i=true)
 | [],acc=>⟨by simp [iz],fun j _=>rfl,fun k o h=>by simp at h⟩
 | o::l,acc=>by
   simp only [iz]
   obtain ⟨h1,h2,h3⟩:=mA l (acc++[o.after.toList.foldl (fun s e=>if Region.binds .any e then s ||| 2 ^ e.on ||| acc.getD e.on 0 else s) 0])
   refine ⟨by rw [h1];simp;omega,fun j hj=>?_,fun k o' ho i hi=>?_⟩
   · rw [h2 j (by simp;omega)]
     simp [List.getD,List.getElem?_append_left hj]
   · cases k with
     | zero=>
       simp at ho;subst ho
       rw [Nat.add_zero,h2 acc.length (by simp)] at hi
       have:(acc++[o.after.toList.foldl (fun s e=>if Region.binds .any e then s ||| 2 ^ e.on ||| acc.getD e.on 0 else s) 0]).getD acc.length 0 =
           o.after.toList.foldl (fun s e=>if Region.binds .any e then s ||| 2 ^ e.on ||| acc.getD e.on 0 else s) 0:=by
         simp [List.getD]
       rw [this] at hi
       rcases kj acc i _ _ hi with h | ⟨e,h4,h5,h6⟩
       · simp at h
       · refine ⟨e,h4,h5,Ci h6 fun h=>?_⟩
         have hlt:e.on<acc.length:=by
           rcases Nat.lt_or_ge e.on acc.length with h' | h'
           · exact h'
           · simp [List.getD,List.getElem?_eq_none h'] at h
         rw [h2 e.on (by simp;omega)]
         simpa [List.getD,List.getElem?_append_left hlt] using h
     | succ k=>
       have:=h3 k o' (by simpa using ho) i (by simpa [Nat.add_assoc,Nat.add_comm 1 k] using hi)
       exact this
theorem fW:∀(l:List Oper) (i:Nat),eM i l=true→∀k o,l[k]?=some o→∀e∈o.after,Region.binds .any e=true→e.on<i+k
 | [],_,_,k,o,h,_,_,_=>by simp at h
 | o::l,i,hd,k,o',ho,e,he,hb=>by
   simp only [eM,Bool.and_eq_true,List.all_eq_true] at hd
   cases k with
   | zero=>
     simp at ho;subst ho
     have:=hd.1 e (by simpa using he)
     simpa [hb] using this
   | succ k=>
     have:=fW l (i+1) hd.2 k o' (by simpa using ho) e he hb
     omega
theorem oP {l:List Oper} (hl:ops.toList=l) (hd:eM 0 l=true) {listed:Array Bool} (hdown:Down ops listed) (i:Nat):∀(j:Nat) (o:Oper),ops[j]?=some o →
   (∀e∈o.after,Region.binds .any e=true→listed.getD e.on false=true)→((iz l []).getD j 0).testBit i=true→listed.getD i false=true:=by
 intro j
 induction j using Nat.strongRecOn with
 | _ j ih=>
   intro o ho hall hbit
   have hlo:l[j]?=some o:=by rw [←hl];simpa using ho
   obtain ⟨e,h1,h2,h3⟩:=(mA l []).2.2 j o hlo i (by simpa using hbit)
   have he:e∈o.after:=by simpa using h1
   rcases h3 with h3 | h3
   · rw [←h3];exact hall e he h2
   · have hlt:=fW l 0 hd j o hlo e he h2
     have hlt':e.on<j:=by omega
     have hjs:j<ops.size:=(Array.getElem?_eq_some_iff.1 ho).1
     have hoo:ops[e.on]?=some (ops[e.on]'(by omega)):=Array.getElem?_eq_getElem (by omega)
     exact ih e.on hlt' _ hoo (fun e' he' hb'=>hdown e.on _ hoo (hall e he h2) e' he' hb') h3
theorem kk {ms:List Nat} {i:Nat} {x:dd}:∀(l:List dd) (j:Nat),lS ms i x j l=true→∀k y,l[k]?=some y→(ms.getD (j+k) 0).testBit i=true∨indep x y=true
 | [],_,_,k,y,h=>by simp at h
 | z::l,j,hp,k,y,hy=>by
   simp only [lS,Bool.and_eq_true,Bool.or_eq_true] at hp
   cases k with
   | zero=>simp at hy;subst hy;exact hp.1
   | succ k=>
     have:=kk l (j+1) hp.2 k y (by simpa using hy)
     rwa [show j+1+k=j+(k+1) from by omega] at this
theorem ji {ms:List Nat}:∀(l:List dd) (i:Nat),iA ms i l=true→∀k m x y,k<m→l[k]?=some x→l[m]?=some y→(ms.getD (i+m) 0).testBit (i+k)=true∨indep x y=true
 | [],_,_,k,m,x,y,_,h,_=>by simp at h
 | z::l,i,hp,k,m,x,y,hkm,hx,hy=>by
   simp only [iA,Bool.and_eq_true] at hp
   cases m with
   | zero=>omega
   | succ m=>
     cases k with
     | zero=>
       simp at hx;subst hx
       have:=kk l (i+1) hp.1 m y (by simpa using hy)
       rwa [show i+1+m=i+(m+1) from by omega] at this
     | succ k=>
       have:=ji l (i+1) hp.2 k m x y (by omega) (by simpa using hx) (by simpa using hy)
       rwa [show i+1+m=i+(m+1) from by omega,show i+1+k=i+(k+1) from by omega] at this
theorem lO {n:Nat} (hd:eM 0 ops.toList=true) {k:Nat} {o:Oper} {listed:Array Bool} (hs:listed.size=n) (hl:∀j,j<n→listed[j]?=some (decide (j<k))) (hn:ops.size=n) (ho:ops[k]?=some o) :
   k∈Region.ready .any ops listed:=by
 have hk:k<ops.size:=(Array.getElem?_eq_some_iff.1 ho).1
 rw [mem_ready]
 refine ⟨by simp [hl k (by omega)],o,ho,fun e he hb=>?_⟩
 have:=fW _ 0 hd k o (by simpa using ho) e he hb
 simp [hl e.on (by omega)]
 omega
theorem qH (hR:∀x y,gK x y→R x→R y) (hd:eM 0 ops.toList=true) (hp:iA (iz ops.toList []) 0 as=true) (hlen:as.length=ops.size) :
   ∀(l:List dd) (k:Nat) (listed:Array Bool) (st st':St),(∀j,l[j]?=as[k+j]?)→l.length+k=ops.size→listed.size=ops.size→(∀j,j<ops.size→listed[j]?=some (decide (j<k)))→Down ops listed →
     bl orc l st=some st'→R st'→qG orc ops as R l.length listed st
 | [],k,listed,st,st',_,hk,hs,hl,_,hev,hr=>by
   simp [bl] at hev;subst hev
   refine ⟨?_,hr⟩
   rw [List.eq_nil_iff_forall_not_mem]
   intro i hi
   obtain ⟨h1,o,ho,_⟩:=mem_ready.1 hi
   have hi':i<ops.size:=(Array.getElem?_eq_some_iff.1 ho).1
   simp at hk
   simp [hl i hi'] at h1
   omega
 | x::l,k,listed,st,st',hlk,hk,hs,hl,hdown,hev,hr=>by
   simp only [bl] at hev
   split at hev
   · simp at hev
   · rename_i st1 hst1
     simp only [List.length_cons] at hk ⊢
     have hx:as[k]?=some x:=by simpa using (hlk 0).symm
     have hks:k<ops.size:=by omega
     have ho:ops[k]?=some ops[k]:=Array.getElem?_eq_getElem hks
     have hready:=lO hd hs hl rfl ho
     refine sQ hR hx (waits:=fun j=>((iz ops.toList []).getD j 0).testBit k) ?_ l.length listed st st1 hdown ?_ hready hst1 ?_
     · intro listed' hdown' j hj hw
       obtain ⟨_,o,hoj,hall⟩:=mem_ready.1 hj
       exact oP rfl hd hdown' k j o hoj hall hw
     · intro j aj hj hjk hun hw
       have hj':j<ops.size:=by rw [←hlen];exact (List.getElem?_eq_some_iff.1 hj).1
       have hkj:k<j:=by
         simp [hl j hj'] at hun
         omega
       have:=ji as 0 hp k j x aj hkj hx hj
       simp only [Nat.zero_add] at this
       rcases this with h | h
       · rw [h] at hw;simp at hw
       · exact h
     · refine qH hR hd hp hlen l (k+1) (listed.setIfInBounds k true) st1 st' (fun j=>?_) (by omega) (by simp [hs]) (fun j hj=>?_) (hdown.step hready) hev hr
       · have:=hlk (j+1)
         rw [show k+(j+1)=k+1+j from by omega] at this
         simpa using this
       · by_cases hkj:k=j
         · subst hkj;simp [hs,hks]
         · rw [Array.getElem?_setIfInBounds_ne hkj,hl j hj]
           congr 1
           simp
           omega
end
section
variable {n0:Nat} {P:Program} {ns:Names}
theorem eU.Fh {n0 N:Nat} {G:Gh} {x y:St} {a:Act} {w:World} (h:eU (num ns) n0 N G x a w) (hl:gK x y):eU (num ns) n0 N G y a w:=by
 refine ⟨⟨h.env.size,fun t v ht=>h.env.env t v (by rw [hl.env];exact ht)⟩,?_,h.marks⟩
 have hi:=h.inv
 rw [hl.sh,hl.aa] at hi
 exact { hi with
   bZ:=fun d cells hd=>hi.bZ d cells (by rw [hl.mem];exact hd)
   eN:=fun d b hd=>by rw [←hl.mem];exact hi.eN d b hd }
theorem eU.drew {n0 N:Nat} {G:Gh} {x:St} {a:Act} {w:World} (h:eU (num ns) n0 N G x a w):eU (num ns) n0 N G x a w.drew:=⟨h.env,h.inv.drew,h.marks.sv (bz.drew G w) rfl⟩
end
end Go.Ab
