import Derived.Test.YthcoecdbgdhihaaGreatDoorAbOps8
/-
  append, run.
-/
set_option linter.unusedVariables false
set_option linter.unusedSimpArgs false
set_option linter.unnecessarySimpa false
set_option maxRecDepth 100000
set_option maxHeartbeats 8000000
namespace Go.Ab
section
variable {P:Program} {ns:Names} {G:Gh} {w:World}
theorem tU (n:Nat):∀(r c:Nat),c≤2*n→256≤c→Builtin.growBy n r c≤2*n
 | 0,c,h,_=>h
 | r+1,c,h,h2=>by
   simp only [Builtin.growBy];split
   · exact h
   · exact tU n r _ (by omega) (by omega)
theorem nextslicecap_le (n c:Nat) (h:c<n):Builtin.nextslicecap n c≤2*n:=by
 unfold Builtin.nextslicecap;split
 · omega
 · split
   · omega
   · exact tU n 4 c (by omega) (by omega)
theorem jc {els:List PV} {v:Value} {sz n:Nat} (hk:∀b o u,G.K b o=some u→w.cell? ⟨b,o,none⟩=some u) (hr:Rel G.K (.aI els) v) (hs:bC sz els=true) (hn:els.length=n) :
   ∃vss:List Value,(Builtin.firstCells sz n v).run P w=.ok vss.toArray w∧vss.length=n*sz ∧
     (∀(K':bJ) (b' o':Nat),G.K.le K'→At K' b' o' vss→Row K' b' o' sz els)∧(∀u∈vss,u.oneCell'=true):=by
 obtain ⟨base,len,cap,rfl,_,hlen,hrow'⟩:=cK.1 hr;by_cases hnil:els=[]
 · subst hnil;simp at hn;subst hn;refine ⟨[],?_,by simp,fun _ _ _ _ _=>by simp only [Row],by simp⟩;cases base with
   | none=>simp [Builtin.firstCells]
   | some a=>simp [Builtin.firstCells,loadCells,loadCellsFrom]
 · obtain ⟨b,o,sz',rfl,hrow⟩:=hrow'.resolve_left hnil;have:=hrow.sz hs hnil;subst this;obtain ⟨vss,g1,g2,g3,g4⟩:=hrow.flat;refine ⟨vss,?_,by rw [g1,hn],g3,g4⟩;have hl:=run_loadCells_list (P:=P) w ⟨b,o,none⟩ vss (fun j u hj=>by rw [Addr.ev];exact hk _ _ _ (g2 j u hj));rw [g1,hn] at hl;simpa [Builtin.firstCells] using hl
theorem fC {argTypes:Array TypeId} {type t e e1 t1 sz:Nat} {base:Option Addr} {len cap n:Nat} {x:Value} {new:Array Value} {xb:Option Addr} {xc:Nat} (h0:argTypes[0]?=some t) (h1:argTypes[1]?=some t1)
   (hu:P.underlying t=some (.slice e)) (hu1:P.underlying t1=some (.slice e1)) (hsz:cW P e=some sz) (hx:x=.slice xb n xc)
   (hnew:(Builtin.firstCells sz n x).run P w=.ok new w) (hfit:len+n≤cap) :
   (Builtin.append_ argTypes type #[.slice base len cap,x]).run P w =
     match base with
     | some a=>((storeCells (a.add (len*sz)) new.toList).run P w).andThen fun _ w'=>.ok (.slice base (len+n) cap) w'
     | none=>.ok (.slice base (len+n) cap) w:=by
 subst hx;cases base with
 | none=>simp [Builtin.append_,h0,h1,run_underlying hu,run_underlying hu1,dJ hsz,Builtin.lenOf,hfit,hnew]
 | some a=>simp [Builtin.append_,h0,h1,run_underlying hu,run_underlying hu1,dJ hsz,Builtin.lenOf,hfit,hnew]
theorem j_ {argTypes:Array TypeId} {type t e e1 t1 sz by_:Nat} {base:Option Addr} {len cap n:Nat} {x:Value} {aY new:Array Value} {xb:Option Addr} {xc:Nat} {z:List PV} (h0:argTypes[0]?=some t) (h1:argTypes[1]?=some t1)
   (hu:P.underlying t=some (.slice e)) (hu1:P.underlying t1=some (.slice e1)) (hsz:cW P e=some sz) (hby:eX P e=some by_) (hz:cT P e=some z) (hzl:z.length=sz) (hx:x=.slice xb n xc)
   (hold:∀w',w'=w.drew→(Builtin.firstCells sz len (.slice base len cap)).run P w'=.ok aY w') (hnew:∀w',w'=w.drew→(Builtin.firstCells sz n x).run P w'=.ok new w')
   (hfit:cap<len+n) (hb0:0<by_) (hbytes:(len+n)*by_≤140737488355328) :
   ∃(rest:Array Value) (newCap:Nat),len+n≤newCap∧rest.size=(newCap-(len+n))*sz ∧
     (Builtin.append_ argTypes type #[.slice base len cap,x]).run P w =
       .ok (.slice (some ⟨w.heap.size,0,none⟩) (len+n) newCap) (w.drew.alloc (.cells (aY++new++rest) e)):=by
 subst hx;obtain ⟨i,hi,hib,hirun⟩:=lx hby w;have hcap:¬Builtin.nextslicecap (len+n) cap*i.bytes > 2 ^ 48:=by
   have h1:=nextslicecap_le (len+n) cap hfit;have h2:Builtin.nextslicecap (len+n) cap*i.bytes≤2*(len+n)*i.bytes:=Nat.mul_le_mul_right _ h1;have h3:2*(len+n)*i.bytes=2*((len+n)*by_):=(by rw [hib,Nat.mul_assoc]);rw [h3] at h2;have:(2:Nat)^48=281474976710656:=(by decide);omega
 have hnf:(Question.appendCap (len+n) cap e).forced=false:=rfl;have hir:∀w',(typeInfo e).run P w'=.ok i w':=fun w'=>by simp [typeInfo,hi]
 obtain ⟨zv,hzv,hz2⟩:=gE (P:=P) (w:=w.drew) hz;have hzs:zv.cells.size=sz:=by have:=gD hz2;simp at this;omega
 refine ⟨Builtin.zeroCells zv.cells ((Question.appendCap (len+n) cap e).cut (w.tape w.drawn (.appendCap (len+n) cap e))-(len+n)),(Question.appendCap (len+n) cap e).cut (w.tape w.drawn (.appendCap (len+n) cap e)),?_,?_,?_⟩
 · simp only [Question.cut];omega
 · simp [Builtin.zeroCells,hzs]
 · have ho:=hold w.drew rfl;have hn:=hnew w.drew rfl;have hi0:i.bytes≠0:=(by omega);simp [Builtin.append_,h0,h1,run_underlying hu,run_underlying hu1,dJ hsz,Builtin.lenOf,Nat.not_le.2 hfit,hir,hi0,hcap,hnf];simp only [ho,hn,hzv,Result.andThen_ok];rfl
theorem jv {x:AV} {v:Value} {els:List PV} (h:cR x=some els) (hr:aC (num ns) G x v):∃xb xc,v=.slice xb els.length xc:=by
 obtain ⟨b,l,c,rfl,_,hl,_⟩:=cK.1 (ew h hr);exact ⟨b,c,by rw [hl]⟩
theorem zU {c:Call} {A:lf} {dst:Option Nat} {args:List Operand} {sz by_:Nat} (h:cm P ns A dst (.call c)=some (.append sz by_,args)) :
   ∃x y t e t1 e1 z,c.callee=.builtin .append∧c.args=#[x,y]∧args=[x,y]∧c.argTypes[0]?=some t∧c.argTypes[1]?=some t1∧P.underlying t=some (.slice e) ∧
     P.underlying t1=some (.slice e1)∧cW P e=some sz∧eX P e=some by_∧cT P e=some z∧z.length=sz∧0<sz∧0<by_:=by
 obtain ⟨callee,cargs,ctypes⟩:=c;simp only [cm] at h;split at h
 · split at h<;>simp at h
 · split at h<;>simp at h
 · split at h<;>simp at h
 · rename_i hcal;split at h
   · rename_i x y e e1 ha ht ht1;split at h
     · rename_i sz' by' z hs hb hz;rw [Option.ite_none_right_eq_some] at h;obtain ⟨⟨h1,h2,h3⟩,h⟩:=h;split at h
       · simp at h
       split at h
       · simp at h
       simp only [Option.some.injEq,Prod.mk.injEq,AK.append.injEq] at h;obtain ⟨⟨rfl,rfl⟩,rfl⟩:=h;simp only [Option.bind_eq_some_iff] at ht ht1;obtain ⟨t,ht,htu⟩:=ht;obtain ⟨t1,ht1,ht1u⟩:=ht1;exact ⟨x,y,t,e,t1,e1,z,rfl,by apply Array.ext';simpa using ha,rfl,ht,ht1,d3 htu,d3 ht1u,hs,hb,hz,h1,h2,h3⟩
     · simp at h
   · simp at h
 · split at h
   · split at h
     · split at h<;>simp at h
     · simp at h
   · simp at h
 · split at h
   · split at h<;>simp at h
   · simp at h
 · split at h
   · split at h
     · (repeat' (split at h))<;>simp at h
     · split at h
       · simp at h
       · split at h
         · simp at h
         · split at h<;>simp at h
   · simp at h
 · split at h<;>simp at h
 · simp at h
theorem w_ {c:Call} {A:lf} {dst:Option Nat} {args:List Operand} {sz by_:Nat} {ag:Bool} (h:cm P ns A dst (.call c)=some (.dd sz by_ ag,args)) :
   ∃x y t e t1 e1 z,c.callee=.builtin .append∧c.args=#[x,y]∧args=[x,y]∧c.argTypes[0]?=some t∧c.argTypes[1]?=some t1∧P.underlying t=some (.slice e) ∧
     P.underlying t1=some (.slice e1)∧cW P e=some sz∧eX P e=some by_∧cT P e=some z∧z.length=sz∧0<sz∧0<by_:=by
 obtain ⟨callee,cargs,ctypes⟩:=c;simp only [cm] at h;split at h
 · split at h<;>simp at h
 · split at h<;>simp at h
 · split at h<;>simp at h
 · rename_i hcal;split at h
   · rename_i x y e e1 ha ht ht1;split at h
     · rename_i sz' by' z hs hb hz;rw [Option.ite_none_right_eq_some] at h;obtain ⟨⟨h1,h2,h3⟩,h⟩:=h;split at h
       · simp only [Option.map_eq_some_iff,Prod.mk.injEq,AK.dd.injEq] at h;obtain ⟨ag',hag,⟨rfl,rfl,rfl⟩,rfl⟩:=h;simp only [Option.bind_eq_some_iff] at ht ht1;obtain ⟨t,ht,htu⟩:=ht;obtain ⟨t1,ht1,ht1u⟩:=ht1;exact ⟨x,y,t,e,t1,e1,z,rfl,by apply Array.ext';simpa using ha,rfl,ht,ht1,d3 htu,d3 ht1u,hs,hb,hz,h1,h2,h3⟩
       · split at h<;>simp at h
     · simp at h
   · simp at h
 · split at h
   · split at h
     · split at h<;>simp at h
     · simp at h
   · simp at h
 · split at h
   · split at h<;>simp at h
   · simp at h
 · split at h
   · split at h
     · (repeat' (split at h))<;>simp at h
     · split at h
       · simp at h
       · split at h
         · simp at h
         · split at h<;>simp at h
   · simp at h
 · split at h<;>simp at h
 · simp at h
theorem JO {K:bJ} {els:List PV} {base:Option Addr} {len sz:Nat} (h:Ly K els base len) (hs:bC sz els=true):els=[]∨∃b o,base=some ⟨b,o,none⟩∧Row K b o sz els:=by
 rcases h.2 with h1 | ⟨b,o,sz',e,hr⟩
 · exact .inl h1
 · by_cases hn:els=[]
   · exact .inl hn
   · have:=hr.sz hs hn;subst this;exact .inr ⟨b,o,e,hr⟩
theorem DB {mem:List (Nat×List AV)} {sh:Sh} {ah toks':aN} (hi:Inv (num ns) G w mem sh ah) {τ:Nat} {l xs:List PV} {sz newCap:Nat} {aY new:List Value} {rest:Array Value} (e:TypeId)
   (ho:aY.length=l.length*sz) (hn:new.length=xs.length*sz) (ho':∀(K':bJ) (b' o':Nat),G.K.le K'→At K' b' o' aY→Row K' b' o' sz l)
   (hn':∀(K':bJ) (b' o':Nat),G.K.le K'→At K' b' o' new→Row K' b' o' sz xs) (hcap:l.length+xs.length≤newCap) (hr:rest.size=(newCap-(l.length+xs.length))*sz) (h0:0<xs.length)
   (hu:mQ G ah toks' τ (l.length+xs.length)) (hg:∀t0,G.tk τ=some t0→¬t0.dead∧t0.cap<l.length+xs.length) :
   ∃G',aC (num ns) G' (.own (l++xs) τ) (.slice (some ⟨w.heap.size,0,none⟩) (l.length+xs.length) newCap) ∧
     Inv (num ns) G' (w.alloc (.cells (aY.toArray++new.toArray++rest) e)) mem sh toks'∧G.le G'∧cq G w G' (w.alloc (.cells (aY.toArray++new.toArray++rest) e)):=by
 let t:Tk:={ base:=some ⟨w.heap.size,0,none⟩,len:=l.length+xs.length,cap:=newCap,sz:=sz,own:=true }
 have hsz:(aY.toArray++new.toArray++rest).size=newCap*sz:=by
   simp [ho,hn,hr];have:newCap=(l.length+xs.length)+(newCap-(l.length+xs.length)):=by omega
   conv=>rhs;rw [this,Nat.add_mul,Nat.add_mul]
 obtain ⟨h1,h2,h3⟩:=hi.grow (t:=t) (c:=aY.toArray++new.toArray++rest) e rfl (by rw [hsz];exact Nat.le_refl _) hcap (by show 0<l.length+xs.length;omega) hu hg;refine ⟨_,?_,h1,h2,h3⟩;have hat:At (ja G w.heap.size (t.len*t.sz) (aY.toArray++new.toArray++rest)) w.heap.size 0 (aY++new):=by
   intro j v hj;have hlt:=(List.getElem?_eq_some_iff.1 hj).1;simp only [List.length_append,ho,hn] at hlt;simp only [ja,if_true,Nat.zero_add];rw [if_pos (by show j<(l.length+xs.length)*sz;rw [Nat.add_mul];exact hlt)];rw [Array.getElem?_append_left (by simp [ho,hn];exact hlt)];simpa using hj
 have hrow:Row (ja G w.heap.size (t.len*t.sz) (aY.toArray++new.toArray++rest)) w.heap.size 0 sz (l++xs):=by
   refine Row.append (ho' _ _ _ h2.K fun j v hj=>hat j v ?_) (hn' _ _ _ h2.K fun j v hj=>?_)
   · rw [List.getElem?_append_left (List.getElem?_eq_some_iff.1 hj).1];exact hj
   · have:=hat (l.length*sz+j) v (by rw [List.getElem?_append_right (by omega),ho,Nat.add_sub_cancel_left];exact hj)
     rwa [Nat.zero_add,←Nat.zero_add (l.length*sz+j),←Nat.add_assoc] at this
 simp only [aC];refine ⟨t,by simp [Gh.bZ],⟨by simp [t],t.qn⟩,cK.2 ⟨_,_,_,rfl,hcap,by simp,.inr ⟨_,_,_,rfl,hrow⟩⟩,fun _=>⟨rfl,.inr ⟨_,_,rfl,hrow⟩⟩⟩
theorem zV {ρ:cy} {mem:List (Nat×List AV)} {sh:Sh} {ah:aN} (hi:Inv ρ G w mem sh ah) (n:Nat):mQ G ah (ah++[n]) ah.length n:=by
 refine ⟨by simp,fun σ hσ=>?_,fun t h=>?_⟩
 · rcases Nat.lt_or_ge σ ah.length with h | h
   · rw [List.getElem?_append_left h]
   · rw [List.getElem?_eq_none (by simp;omega),List.getElem?_eq_none h]
 · have:=hi.fc _ t h;rw [List.getElem?_eq_none (Nat.le_refl _)] at this;simp at this
theorem va {argTypes:Array TypeId} {type t e e1 t1 sz by_:Nat} {z:List PV} {s x y:AV} {vs vx:Value} {mem:List (Nat×List AV)} {sh:Sh} {ah toks':aN}
   (h0:argTypes[0]?=some t) (h1:argTypes[1]?=some t1)
   (hu:P.underlying t=some (.slice e)) (hu1:P.underlying t1=some (.slice e1)) (hsz:cW P e=some sz) (hby:eX P e=some by_) (hz:cT P e=some z) (hzl:z.length=sz) (hb0:0<by_)
   (hs:aC (num ns) G s vs) (hx:aC (num ns) G x vx) (hi:Inv (num ns) G w mem sh ah) (h:cD sz by_ s x ah=some (y,toks')) :
   ∃v w' G',(Builtin.append_ argTypes type #[vs,vx]).run P w=.ok v w'∧aC (num ns) G' y v∧Inv (num ns) G' w' mem sh toks'∧G.le G'∧cq G w G' w':=by
 unfold cD at h;split at h
 · simp at h
 · rename_i xs hxs;simp only [Option.ite_none_right_eq_some] at h;obtain ⟨hhx,h⟩:=h;obtain ⟨xb,xc,rfl⟩:=jv hxs hx;have hrx:=ew hxs hx;have known':∀w',w'=w.drew→∀b o u,G.K b o=some u→w'.cell? ⟨b,o,none⟩=some u:=fun w' e b o u hk=>by subst e;exact hi.known b o u hk
   obtain ⟨new,n1,n2,n3,n4⟩:=jc (P:=P) hi.known hrx hhx rfl;have n1':∀w',w'=w.drew→(Builtin.firstCells sz xs.length (.slice xb xs.length xc)).run P w'=.ok new.toArray w':=by
     intro w' e;obtain ⟨new',m1,_,_⟩:=jc (P:=P) (known' w' e) hrx hhx rfl;have hsame:(Builtin.firstCells sz xs.length (.slice xb xs.length xc)).run P w'=.ok new'.toArray w':=m1;have:new'=new:=by
       subst e;obtain ⟨base,len,cap,e1,_,hlen,hrow'⟩:=cK.1 hrx;cases e1;by_cases hnil:xs=[]
       · subst hnil;have a1:new=[]:=by apply List.eq_nil_of_length_eq_zero;simpa using n2
         have a2:new'=[]:=by
           cases xb with
           | none=>simpa [Builtin.firstCells] using m1.symm
           | some a=>simpa [Builtin.firstCells,loadCells,loadCellsFrom] using m1.symm
         rw [a1,a2]
       · obtain ⟨b,o,sz',e2,hrow⟩:=hrow'.resolve_left hnil;cases e2;have:=hrow.sz hhx hnil;subst this;obtain ⟨vss,g1,g2,_,_⟩:=hrow.flat;have l1:=run_loadCells_list (P:=P) w ⟨b,o,none⟩ vss (fun j u hj=>by rw [Addr.ev];exact hi.known _ _ _ (g2 j u hj));have l2:=run_loadCells_list (P:=P) w.drew ⟨b,o,none⟩ vss (fun j u hj=>by rw [Addr.ev];exact hi.known _ _ _ (g2 j u hj));rw [g1] at l1 l2;simp only [Builtin.firstCells] at n1 m1;rw [l1] at n1;rw [l2] at m1;simp at n1 m1;rw [←n1,←m1]
     rw [hsame,this]
   have grows:∀(l:List PV) (base:Option Addr) (cap τ:Nat),Rel G.K (.aI l) (.slice base l.length cap)→bC sz l=true→cap<l.length+xs.length→(l.length+xs.length)*by_≤140737488355328 →
       mQ G ah toks' τ (l.length+xs.length)→(∀t0,G.tk τ=some t0→¬t0.dead∧t0.cap<l.length+xs.length)→y=.own (l++xs) τ →
       ∃v w' G',(Builtin.append_ argTypes type #[.slice base l.length cap,.slice xb xs.length xc]).run P w=.ok v w'∧aC (num ns) G' y v∧Inv (num ns) G' w' mem sh toks'∧G.le G'∧cq G w G' w':=by
     intro l base cap τ hrl hhl hfit hbytes hup hg hy;obtain ⟨aY,o1,o2,o3,o4⟩:=jc (P:=P) (w:=w.drew) (known' _ rfl) hrl hhl rfl;obtain ⟨rest,newCap,p1,p2,p3⟩:=j_ (type:=type) (aY:=aY.toArray) (new:=new.toArray) h0 h1 hu hu1 hsz hby hz hzl (base:=base) (len:=l.length) (cap:=cap) (n:=xs.length) (xb:=xb) (xc:=xc) rfl
       (fun w' e=>by subst e;exact o1) n1' hfit hb0 hbytes
     have hpos:0<xs.length:=by
       rcases Nat.eq_zero_or_pos xs.length with hz' | hz'
       · have:=(cK.1 hrl);obtain ⟨b',l',c',e',hle,hlen,_⟩:=this;cases e';omega
       · exact hz'
     obtain ⟨G',q1,q2,q3,q4⟩:=DB (ns:=ns) (w:=w.drew) hi.drew e o2 n2 o3 n3 p1 p2 hpos hup hg;exact ⟨_,_,G',p3,by rw [hy];exact q1,q2,q3,(cq.drew G w).trans q4⟩
   split at h
   · -- a slice without room to spare
     rename_i l;split at h
     · rename_i hemp;have hxs0:xs=[]:=List.isEmpty_iff.1 hemp;subst hxs0;simp only [Option.some.injEq,Prod.mk.injEq] at h;obtain ⟨rfl,rfl⟩:=h;have hs':=hs;simp only [aC] at hs;obtain ⟨base,len,rfl,hsl⟩:=hs;have hlen:=hsl.1;subst hlen;have hnew:new=[]:=by apply List.eq_nil_of_length_eq_zero;simpa using n2
       subst hnew;have hrun:=fC (type:=type) h0 h1 hu hu1 hsz (base:=base) (len:=l.length) (cap:=l.length) (n:=0) (xb:=xb) (xc:=xc) rfl n1 (by omega);refine ⟨.slice base l.length l.length,w,G,?_,hs',hi,G.le_refl,cq.refl G w⟩;refine Eq.trans hrun ?_;cases base<;>simp [storeCells]
     simp only [Option.ite_none_right_eq_some,Option.some.injEq,Prod.mk.injEq] at h;obtain ⟨⟨hhl,hbytes⟩,rfl,rfl⟩:=h;have hs':=hs;simp only [aC] at hs;obtain ⟨base,len,rfl,hsl⟩:=hs;have hlen:=hsl.1;subst hlen;have hlen2:(l++xs).length=l.length+xs.length:=by simp
     have hup:mQ G ah (ah++[(l++xs).length]) ah.length (l.length+xs.length):=by
       rw [hlen2];exact zV hi (l.length+xs.length)
     have htk:G.tk ah.length=none:=by
       cases hh:G.tk ah.length with
       | none=>rfl
       | some t0=>have:=hi.fc _ t0 hh;rw [List.getElem?_eq_none (Nat.le_refl _)] at this;simp at this
     by_cases hn0:xs.length=0
     · have hxs0:xs=[]:=by cases xs with | nil=>rfl | cons _ _=>simp at hn0
       subst hxs0;have hnew:new=[]:=by apply List.eq_nil_of_length_eq_zero;simpa using n2
       subst hnew;have hrun:=fC (type:=type) h0 h1 hu hu1 hsz (base:=base) (len:=l.length) (cap:=l.length) (n:=0) (xb:=xb) (xc:=xc) rfl n1 (by omega);let tk:Tk:={ base,len:=l.length,cap:=l.length,sz };obtain ⟨g1,g2,g3⟩:=hi.JN (τ:=ah.length) (t:=tk) (toks':=ah++[(l++[]).length]) rfl rfl htk hup.at_ hup.other;refine ⟨.slice base l.length l.length,w,_,?_,?_,g1,g2,g3⟩
       · refine Eq.trans hrun ?_;cases base<;>simp [storeCells]
       · simp only [aC];refine ⟨tk,by simp [Gh.bZ],⟨by simp [tk],tk.qn⟩,?_,fun _=>⟨rfl,?_⟩⟩
         · simp only [List.append_nil];exact cK.2 ⟨_,_,_,rfl,Nat.le_refl _,hsl⟩
         · simp only [List.append_nil];exact JO hsl hhl
     · exact grows l base l.length ah.length (cK.2 ⟨_,_,_,rfl,Nat.le_refl _,hsl⟩) hhl (by omega) hbytes hup (fun t0 h=>by rw [htk] at h;cases h) rfl
   · -- a slice that has its room to spare to itself
     rename_i l τ;simp only [Option.ite_none_right_eq_some,Option.some.injEq,Prod.mk.injEq] at h;obtain ⟨⟨htok,hhl,hbytes⟩,rfl,rfl⟩:=h;have hs':=hs;simp only [aC] at hs;obtain ⟨tk,e1,e2,e3,e4⟩:=hs;have hlen:l.length=tk.len:=by
       have:=hi.fc τ tk e1;rw [htok] at this;simpa using this
     obtain ⟨hv,hrow⟩:=e4 hlen;obtain ⟨tk',f1,f2,f3⟩:=hi.dI τ _ htok;rw [e1] at f1;cases f1;have hlen2:(l++xs).length=l.length+xs.length:=by simp
     obtain ⟨base,tlen,cap,tsz,town⟩:=tk;simp only [Tk.val] at hv hlen f2 f3;subst hv;subst hlen;by_cases hn0:xs.length=0
     · have hxs0:xs=[]:=by cases xs with | nil=>rfl | cons _ _=>simp at hn0
       subst hxs0;have hnew:new=[]:=by apply List.eq_nil_of_length_eq_zero;simpa using n2
       subst hnew;have hrun:=fC (type:=type) h0 h1 hu hu1 hsz (base:=base) (len:=l.length) (cap:=cap) (n:=0) (xb:=xb) (xc:=xc) rfl n1 (by have:=f3.cap;simpa using this);have hset:ah.set τ (l++([]:List PV)).length=ah:=by
         apply List.ext_getElem?
         intro j;rw [List.getElem?_set];split
         · rename_i e;subst e;have:=(List.getElem?_eq_some_iff.1 htok);obtain ⟨hlt,_⟩:=this;rw [if_pos hlt,htok];simp
         · rfl
       rw [hset];refine ⟨.slice base l.length cap,w,G,?_,?_,hi,G.le_refl,cq.refl G w⟩
       · refine Eq.trans hrun ?_;cases base<;>simp [storeCells]
       · simpa using hs'
     · have hpos:0<xs.length:=(by omega);have hup:mQ G ah (ah.set τ (l++xs).length) τ (l.length+xs.length):=by
         rw [hlen2];have hlt:=(List.getElem?_eq_some_iff.1 htok).1;refine ⟨by rw [List.getElem?_set];simp [hlt],fun σ hσ=>by rw [List.getElem?_set,if_neg (Ne.symm hσ)],fun t0 h=>?_⟩;rw [e1] at h;cases h;simp;omega
       rcases Nat.lt_or_ge cap (l.length+xs.length) with hfit | hfit
       · refine grows l base cap τ e3 hhl hfit hbytes hup (fun t0 h=>?_) rfl;rw [e1] at h;cases h;refine ⟨?_,hfit⟩
         rintro ⟨d1,d2⟩
         rcases hrow with rfl | ⟨b,o,e,_⟩
         · simp at d2
         · rw [d1] at e;cases e
       · have hl0:l≠[]:=by
           rintro rfl
           have:=f3.zero rfl;simp at this hfit;omega
         obtain ⟨b,o,hbase,hrow⟩:=hrow.resolve_left hl0;simp only at hbase;subst hbase;have:=hrow.sz hhl hl0;subst this;obtain ⟨b',o',c,ty,p1,p2,p3,p4,p5⟩:=f3.spare (.inl (by simp;omega));simp only [Option.some.injEq,Addr.mk.injEq] at p1;obtain ⟨rfl,rfl,_⟩:=p1;simp only at p4 p5;have hmul:(l.length+xs.length)*sz≤cap*sz:=Nat.mul_le_mul_right _ hfit;rw [Nat.add_mul] at hmul;have tV:=run_storeCells_at (P:=P) b (o+l.length*sz) ty new 0 c w p3 (by rw [n2];omega) n4;have hrun:=fC (type:=type) h0 h1 hu hu1 hsz (base:=some ⟨b,o,none⟩) (len:=l.length) (cap:=cap) (n:=xs.length) (xb:=xb) (xc:=xc) rfl n1 hfit;simp only [Nat.add_zero] at tV;obtain ⟨g1,g2,g3⟩:=hi.fill (t:=⟨some ⟨b,o,none⟩,l.length,cap,sz,town⟩) (n:=xs.length) e1 rfl p2 p3 p4 p5 n2 hpos hfit rfl hup;refine ⟨.slice (some ⟨b,o,none⟩) (l.length+xs.length) cap,_,_,?_,?_,g1,g2,g3⟩
         · refine Eq.trans hrun ?_;simp only [Addr.ev,tV,Result.andThen_ok]
         · have hat:At (jb G b (o+l.length*sz) new) b (o+l.length*sz) new:=by
             intro j v hj;have hlt:=(List.getElem?_eq_some_iff.1 hj).1;simp only [jb];rw [if_pos ⟨trivial,by omega,by omega⟩,Nat.add_sub_cancel_left];exact hj
           have hrow':Row (jb G b (o+l.length*sz) new) b o sz (l++xs):=Row.append (Row.mono g2.K _ _ _ _ hrow) (n3 _ _ _ g2.K hat);simp only [aC];exact ⟨⟨some ⟨b,o,none⟩,l.length+xs.length,cap,sz,true⟩,by simp [Gh.bZ],⟨by simp,Tk.qn _⟩,cK.2 ⟨_,_,_,rfl,hfit,by simp,.inr ⟨_,_,_,rfl,hrow'⟩⟩,fun _=>⟨rfl,.inr ⟨_,_,rfl,hrow'⟩⟩⟩
   · simp at h
end
end Go.Ab
