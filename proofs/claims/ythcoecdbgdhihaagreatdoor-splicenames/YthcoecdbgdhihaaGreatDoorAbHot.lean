import Derived.Test.YthcoecdbgdhihaaGreatDoorAbOps10
/-
  append onto arrays that may still be written.
-/
set_option linter.unusedVariables false
set_option linter.unusedSimpArgs false
set_option linter.unnecessarySimpa false
set_option maxRecDepth 100000
set_option maxHeartbeats 8000000
namespace Go.Ab
section
variable {P:Program} {ns:Names} {G:Gh} {w:World}
theorem jV {K:bJ}:∀{cs:List PV} {vs:List Value},dV K cs vs→∀p∈cs,eI p=true
 | [],_,_,p,hp=>by simp at hp
 | c::cs,_,h,p,hp=>by
   simp only [dV] at h;obtain ⟨v,r,rfl,e2,e3⟩:=h;simp only [List.mem_cons] at hp;rcases hp with rfl | hp
   · cases p with
     | agg _=>simp [R] at e2
     | _=>rfl
   · exact jV e3 p hp
theorem Row.q' {K:bJ}:∀{els:List PV} {b o sz:Nat},Row K b o sz els →
   ∃vss:List Value,vss.length=els.length*sz∧At K b o vss∧dV K (els.flatMap bw) vss∧∀u∈vss,u.oneCell'=true
 | [],b,o,sz,_=>⟨[],by simp,by intro j v h;simp at h,by simp [dV],by simp⟩
 | el::r,b,o,sz,hr=>by
   simp only [Row] at hr;obtain ⟨⟨vs,h1,h2,h3⟩,h4⟩:=hr;obtain ⟨vss,g1,g2,g3,g4⟩:=Row.q' h4;refine ⟨vs++vss,by simp [h1,g1,Nat.add_mul];omega,?_,by rw [List.flatMap_cons];exact dV.append h3.cells g3,?_⟩
   · intro j v hj;rw [List.getElem?_append] at hj;split at hj
     · exact h2 j v hj
     · have:=g2 _ v hj;rw [h1] at this
       rwa [show o+sz+(j-sz)=o+j from by omega] at this
   · intro u hu;simp only [List.mem_append] at hu;rcases hu with hu | hu
     · exact dV.one h3.cells u hu
     · exact g4 u hu
theorem oH {els:List PV} {base:Option Addr} {cap:Nat} {sz:Nat} (hr:Rel G.K (.aI els) (.slice base els.length cap)) (hs:bC sz els=true) :
   ∃vss:List Value,vss.length=els.length*sz∧dV G.K (els.flatMap bw) vss∧(∀u∈vss,u.oneCell'=true) ∧
     ∀w:World,(∀b o u,G.K b o=some u→w.cell? ⟨b,o,none⟩=some u)→(Builtin.firstCells sz els.length (.slice base els.length cap)).run P w=.ok vss.toArray w:=by
 obtain ⟨base',len,cap',e,_,hlen,hrow'⟩:=cK.1 hr;cases e;by_cases hnil:els=[]
 · subst hnil;refine ⟨[],by simp,by simp [dV],by simp,fun w _=>?_⟩;cases base with
   | none=>simp [Builtin.firstCells]
   | some a=>simp [Builtin.firstCells,loadCells,loadCellsFrom]
 · obtain ⟨b,o,sz',rfl,hrow⟩:=hrow'.resolve_left hnil;have:=hrow.sz hs hnil;subst this;obtain ⟨vss,g1,g2,g3,g4⟩:=hrow.q';refine ⟨vss,g1,g3,g4,fun w hk=>?_⟩;have hl:=run_loadCells_list (P:=P) w ⟨b,o,none⟩ vss (fun j u hj=>by rw [Addr.ev];exact hk _ _ _ (g2 j u hj));rw [g1] at hl;simpa [Builtin.firstCells] using hl
theorem rb {b n cap sz:Nat} {c:Array Value} {t:TypeId} {vs suf:List Value} (hh:w.heap[b]?=some (.cells c t (0,0))) (hsp:c.toList=vs++suf) (hn:n*sz≤vs.length) :
   (Builtin.firstCells sz n (.slice (some ⟨b,0,none⟩) n cap)).run P w=.ok (vs.take (n*sz)).toArray w:=by
 have hl:=run_loadCells_list (P:=P) w ⟨b,0,none⟩ (vs.take (n*sz)) (fun j u hj=>by
   rw [Addr.ev,Nat.zero_add];rw [List.getElem?_take] at hj;split at hj
   · have:c.toList[j]?=some u:=by rw [hsp,List.getElem?_append_left (List.getElem?_eq_some_iff.1 hj).1];exact hj
     simp only [World.cell?,hh];simpa using this
   · simp at hj)
 rw [List.length_take,Nat.min_eq_left hn] at hl;simpa [Builtin.firstCells] using hl
theorem Inv.Oi {ρ:cy} {mem:List (Nat×List AV)} {sh:Sh} {ah:aN} (hi:Inv ρ G w mem sh ah) (s:Nat):Inv ρ G w mem (sh.set s none) ah:=
 { hi with
   dP:=fun s' cs hs'=>by
     rw [List.getElem?_set] at hs';split at hs'
     · split at hs'<;>simp at hs'
     · exact hi.dP s' cs hs'
   eJ:=fun s' b h=>by simpa using hi.eJ s' b h }
def Gh.ix (G:Gh) (s':Nat) (b:Nat×Nat):Gh:={ G with role:=fun k=>if k=b.1 then .shr s' else G.role k,sm:=fun k=>if k=s' then some b else G.sm k }
theorem Inv.ix {ρ:cy} {mem:List (Nat×List AV)} {sh:Sh} {ah:aN} (hi:Inv ρ G w mem sh ah) {s:Nat} {b:Nat×Nat} {cells:List AV} (hs:sh[s]?=some (some cells)) (hb:G.sm s=some b) :
   Inv ρ (G.ix sh.length b) w mem (sh.set s none++[some cells]) ah∧G.le (G.ix sh.length b)∧cq G w (G.ix sh.length b) w:=by
 obtain ⟨b0,e1,e2,e3,e4⟩:=hi.dP s cells hs;rw [hb] at e1;cases e1;have hr:G.role b.1=.shr s:=e2.role;have hsm:G.sm sh.length=none:=by
   cases h:G.sm sh.length with
   | none=>rfl
   | some b=>have:=hi.eJ _ b h;omega
 have hle:G.le (G.ix sh.length b):=⟨G.K.le_refl,fun _ _ h=>h,fun k b h=>by
   simp only [Gh.ix];split
   · rename_i e;subst e;rw [hsm] at h;simp at h
   · exact h,fun _ t h=>⟨t,h,⟨Nat.le_refl _,t.gM⟩,fun _=>rfl⟩⟩
 have hrole:∀k r,G.role k=r→r≠.shr s→(G.ix sh.length b).role k=r:=by
   intro k r hk hn;simp only [Gh.ix];rw [if_neg]
   · exact hk
   · rintro rfl;exact hn (hk.symm.trans hr)
 have hslt:s<sh.length:=(List.getElem?_eq_some_iff.1 hs).1;have hevo:cq G w (G.ix sh.length b) w:={
           size:=Nat.le_refl _,os:=rfl,tape:=rfl,output:=rfl,K:=G.K.le_refl,sm:=hle.sm,
           eE:=fun k _ hk=>⟨hrole k _ hk (by simp),rfl⟩
           iG:=fun k τ _ hk=>.inr ⟨τ,hrole k _ hk (by simp)⟩
           gO:=fun _ _ _ _ _ h=>h }
 refine ⟨⟨hi.known,?_,?_,?_,hi.gN,?_,?_,?_,hi.fc,hi.h_ hevo⟩,hle,hevo⟩
 · intro k o v hk;rcases hi.bz k o v hk with h | ⟨τ,h⟩
   · exact .inl (hrole k _ h (by simp))
   · exact .inr ⟨τ,hrole k _ h (by simp)⟩
 · intro k hk;exact hrole k _ (hi.fresh k hk) (by simp)
 · intro d cs hd;obtain ⟨b',e1,e2,e3⟩:=hi.dq d cs hd;exact ⟨b',e1,e2.mono hle ((hrole b' _ e2.role (by simp)).trans e2.role.symm) rfl,e3⟩
 · intro s' cs hs';rw [List.getElem?_append] at hs';split at hs'
   · rw [List.getElem?_set] at hs';split at hs'
     · simp at hs'
     · rename_i hne;obtain ⟨b',f1,f2,f3⟩:=hi.dP s' cs hs';exact ⟨b',hle.sm _ _ f1,f2.mono hle ((hrole b'.1 _ f2.role (by simp;exact fun h=>hne h.symm)).trans f2.role.symm) rfl,f3⟩
   · rename_i hge;have hs'':s'=sh.length:=by
       rcases Nat.eq_or_lt_of_le (Nat.le_of_not_lt hge) with h | h
       · simpa using h.symm
       · rw [List.getElem?_eq_none (by simp at h ⊢;omega)] at hs';simp at hs'
     subst hs'';simp at hs';subst hs';obtain ⟨_,o,hh,hold⟩:=e2;exact ⟨b,by simp [Gh.ix],⟨by simp [Gh.ix],o,hh,hold.mono hle⟩,e3,kf (by omega) e4⟩
 · intro s' b' h;simp only [Gh.ix] at h;split at h
   · rename_i e;subst e;simp
   · have:=hi.eJ s' b' h;simp;omega
 · intro τ n hn;obtain ⟨tk,e1,e2,e3⟩:=hi.dI τ n hn;refine ⟨tk,e1,e2,e3.cap,e3.zero,fun hlt=>?_⟩;obtain ⟨b',o,cc,ty,f1,f2,f3,f4,f5⟩:=e3.spare hlt;exact ⟨b',o,cc,ty,f1,hrole b' _ f2 (by simp),f3,f4,f5⟩
theorem xe {cs:List PV} (h:∀p∈cs,eI p=true):(cs.map AV.pv).all dS=true:=by
 rw [List.all_eq_true];intro x hx;obtain ⟨p,hp,rfl⟩:=List.mem_map.1 hx;have:=h p hp;cases p<;>simp_all [dS,bp,eI]
theorem tj {argTypes:Array TypeId} {type t e e1 t1 sz by_:Nat} {ag:Bool} {z:List PV} {s x y:AV} {xs:List PV} {vs vx:Value} {mem:List (Nat×List AV)} {sh sh':Sh} {ah:aN}
   (h0:argTypes[0]?=some t) (h1:argTypes[1]?=some t1)
   (hu:P.underlying t=some (.slice e)) (hu1:P.underlying t1=some (.slice e1)) (hsz:cW P e=some sz) (hby:eX P e=some by_) (hz:cT P e=some z) (hzl:z.length=sz) (hb0:0<by_)
   (hs:aC (num ns) G s vs) (hx:aC (num ns) G x vx) (hi:Inv (num ns) G w mem sh ah) (hxs:cR x=some xs) (hhx:bC sz xs=true) (h:qd sz by_ ag s xs sh ah=some (y,sh')) :
   ∃v w' G',(Builtin.append_ argTypes type #[vs,vx]).run P w=.ok v w'∧aC (num ns) G' y v∧Inv (num ns) G' w' mem sh' ah∧G.le G'∧cq G w G' w':=by
 obtain ⟨xb,xc,rfl⟩:=jv hxs hx;have hrx:=ew hxs hx;have knownD:∀w',w'=w.drew→∀b o u,G.K b o=some u→w'.cell? ⟨b,o,none⟩=some u:=fun w' e b o u hk=>by subst e;exact hi.known b o u hk
 obtain ⟨new,n1,n2,n3,n4⟩:=oH (P:=P) hrx hhx;have hleaf:((xs.flatMap bw).map AV.pv).all dS=true:=xe (jV n2);have hrefs:∀k,((xs.flatMap bw).map AV.pv).all (aW k)=true:=by
   intro k;rw [List.all_eq_true];intro x hx;obtain ⟨p,_,rfl⟩:=List.mem_map.1 hx;rfl
 have onto:∀base,vs=.slice base 0 0→qc sz by_ ag s xs sh=some (y,sh') →
     ∃v w' G',(Builtin.append_ argTypes type #[vs,.slice xb xs.length xc]).run P w=.ok v w'∧aC (num ns) G' y v∧Inv (num ns) G' w' mem sh' ah∧G.le G'∧cq G w G' w':=by
   rintro base rfl ha
   unfold qc at ha;split at ha
   · rename_i hemp;have hxs0:xs=[]:=List.isEmpty_iff.1 hemp;subst hxs0;simp only [Option.some.injEq,Prod.mk.injEq] at ha;obtain ⟨rfl,rfl⟩:=ha;have hnew:new=[]:=by apply List.eq_nil_of_length_eq_zero;simpa using n1
     subst hnew;have hrun:=fC (type:=type) h0 h1 hu hu1 hsz (base:=base) (len:=0) (cap:=0) (n:=0) (xb:=xb) (xc:=xc) rfl (n4 w hi.known) (by omega);refine ⟨.slice base 0 0,w,G,?_,hs,hi,G.le_refl,cq.refl G w⟩;refine Eq.trans hrun ?_;cases base<;>simp [storeCells]
   · rename_i hemp;simp only [Option.ite_none_right_eq_some,Option.some.injEq,Prod.mk.injEq] at ha;obtain ⟨hbytes,rfl,rfl⟩:=ha;have hpos:0<xs.length:=by
       cases xs with
       | nil=>simp at hemp
       | cons _ _=>simp
     obtain ⟨rest,newCap,p1,p2,p3⟩:=j_ (type:=type) (aY:=#[]) (new:=new.toArray) h0 h1 hu hu1 hsz hby hz hzl (base:=base) (len:=0) (cap:=0) (n:=xs.length) (xb:=xb) (xc:=xc) rfl
       (fun w' e=>by cases base<;>simp [Builtin.firstCells,loadCells,loadCellsFrom]) (fun w' e=>n4 w' (knownD w' e)) (by omega) hb0 (by simpa using hbytes)
     have hrel:aB (num ns) G ((xs.flatMap bw).map .pv) new:=iu n2;obtain ⟨g1,g2,g3⟩:=hi.drew.zT (o':=.cells (#[]++new.toArray++rest) e) (N:=(#[]++new.toArray++rest).size) (cells:=(xs.flatMap bw).map .pv)
       (.inl ⟨_,e,new,rest.toList,rfl,rfl,by simp,hrel⟩) hleaf (hrefs _)
     refine ⟨_,_,_,p3,?_,g1,g2,(cq.drew G w).trans g3⟩;simp only [aC];refine ⟨(w.drew.heap.size,(#[]++new.toArray++rest).size),newCap-xs.length,by simp [Gh.dQ],?_,?_⟩
     · have:xs.length+(newCap-xs.length)=newCap:=by omega
       show Value.slice (some ⟨w.heap.size,0,none⟩) (0+xs.length) newCap=Value.slice (some ⟨w.heap.size,0,none⟩) xs.length (xs.length+(newCap-xs.length));simp [this]
     · have:xs.length+(newCap-xs.length)=newCap:=by omega
       rw [this];simp [n1,p2];have:newCap=xs.length+(newCap-xs.length):=by omega
       conv=>lhs;rw [this,Nat.add_mul]
       omega
 unfold qd at h;split at h
 · have hs':=hs;simp only [aC] at hs;obtain ⟨base,len,rfl,hsl⟩:=hs;have hlen:len=0:=by have:=hsl.1;simpa using this.symm
   subst hlen;exact onto base rfl h
 · rename_i τ;simp only [Option.ite_none_right_eq_some] at h;obtain ⟨htok,h⟩:=h;simp only [aC] at hs;obtain ⟨tk,e1,e2,e3,e4⟩:=hs;have hlen:([]:List PV).length=tk.len:=by
     have:=hi.fc τ tk e1;rw [htok] at this;simpa using this
   obtain ⟨hv,_⟩:=e4 hlen;obtain ⟨tk',f1,f2,f3⟩:=hi.dI τ _ htok;rw [e1] at f1;cases f1;have hcap:=f3.zero (by simpa using hlen.symm);refine onto tk.base ?_ h;rw [hv];simp only [Tk.val];rw [hcap,←hlen];rfl
 · rename_i b z' n g;split at h
   · rename_i cells hcs;simp only [Option.ite_none_right_eq_some] at h;obtain ⟨⟨rfl,rfl,hmb,hnc,hbytes⟩,h⟩:=h;have hs':=hs;simp only [aC] at hs;obtain ⟨blk,cap,hsm,rfl,hroom⟩:=hs;obtain ⟨blk',hp',hblk,hlf,hrf⟩:=hi.dP _ _ hcs;rw [hsm] at hp';cases hp';obtain ⟨_,c,ty,us,suf,hh,hcz,hsp,hrel⟩:=hblk.cells hmb;have hul:us.length=cells.length:=hrel.length;split at h
     · rename_i hemp;have hxs0:xs=[]:=List.isEmpty_iff.1 hemp;subst hxs0;simp only [Option.some.injEq,Prod.mk.injEq] at h;obtain ⟨rfl,rfl⟩:=h;have hnew:new=[]:=by apply List.eq_nil_of_length_eq_zero;simpa using n1
       subst hnew;have hrun:=fC (type:=type) h0 h1 hu hu1 hsz (base:=some ⟨blk.1,0,none⟩) (len:=n) (cap:=n+cap) (n:=0) (xb:=xb) (xc:=xc) rfl (n4 w hi.known) (by omega);refine ⟨.slice (some ⟨blk.1,0,none⟩) n (n+cap),w,G,?_,hs',hi,G.le_refl,cq.refl G w⟩;refine Eq.trans hrun ?_;simp [storeCells]
     · rename_i hemp;simp only [Option.some.injEq,Prod.mk.injEq] at h;obtain ⟨rfl,rfl⟩:=h;have hpos:0<xs.length:=by
         cases xs with
         | nil=>simp at hemp
         | cons _ _=>simp
       have hrel1:aB (num ns) G (cells.take (n*z')) (us.take (n*z')):=hrel.take _;have hlf1:(cells.take (n*z')).all dS=true:=by
         rw [List.all_eq_true] at hlf ⊢;exact fun x hx=>hlf x (List.mem_of_mem_take hx)
       have hrf1:(cells.take (n*z')).all (aW (b+1))=true:=by
         rw [List.all_eq_true] at hrf ⊢;exact fun x hx=>hrf x (List.mem_of_mem_take hx)
       have hblt:b<sh.length:=(List.getElem?_eq_some_iff.1 hcs).1;have hlfN:(cells.take (n*z')++(xs.flatMap bw).map AV.pv).all dS=true:=by
         rw [List.all_append,hlf1,hleaf];rfl
       have hrfN:(cells.take (n*z')++(xs.flatMap bw).map AV.pv).all (aW (sh.length+1))=true:=by
         rw [List.all_append,kf (by omega) hrf1,hrefs];rfl
       have htl:(us.take (n*z')).length=n*z':=(by rw [List.length_take];omega);rcases Nat.lt_or_ge (n+cap) (n+xs.length) with hfit | hfit
       · -- a new block
         obtain ⟨rest,newCap,p1,p2,p3⟩:=j_ (type:=type) (aY:=(us.take (n*z')).toArray) (new:=new.toArray) h0 h1 hu hu1 hsz hby hz hzl (base:=some ⟨blk.1,0,none⟩) (len:=n) (cap:=n+cap) (n:=xs.length) (xb:=xb) (xc:=xc) rfl
           (fun w' e=>by subst e;exact rb (w:=w.drew) hh hsp (by omega)) (fun w' e=>n4 w' (knownD w' e)) hfit hb0 hbytes
         have hrel:aB (num ns) G (cells.take (n*z')++(xs.flatMap bw).map .pv) (us.take (n*z')++new):=hrel1.append (iu n2);have hi1:=hi.drew.Oi b;have hlen:(sh.set b none).length=sh.length:=(by simp);obtain ⟨g1,g2,g3⟩:=hi1.zT (o':=.cells ((us.take (n*z')).toArray++new.toArray++rest) e) (N:=((us.take (n*z')).toArray++new.toArray++rest).size) (cells:=cells.take (n*z')++(xs.flatMap bw).map .pv)
           (.inl ⟨_,e,us.take (n*z')++new,rest.toList,rfl,rfl,by simp,hrel⟩) hlfN (by rw [hlen];exact hrfN)
         rw [hlen] at g1 g2 g3;refine ⟨_,_,_,p3,?_,g1,g2,(cq.drew G w).trans g3⟩;simp only [aC];refine ⟨(w.drew.heap.size,((us.take (n*z')).toArray++new.toArray++rest).size),newCap-(n+xs.length),by simp [Gh.dQ],?_,?_⟩
         · have:n+xs.length+(newCap-(n+xs.length))=newCap:=by omega
           show Value.slice (some ⟨w.heap.size,0,none⟩) (n+xs.length) newCap=Value.slice (some ⟨w.heap.size,0,none⟩) (n+xs.length) (n+xs.length+(newCap-(n+xs.length)));simp [this]
         · have:n+xs.length+(newCap-(n+xs.length))=newCap:=by omega
           rw [this];simp only [Array.size_append,List.size_toArray,htl,n1,p2];have:newCap=n+xs.length+(newCap-(n+xs.length)):=by omega
           conv=>lhs;rw [this,Nat.add_mul,Nat.add_mul]
           omega
       · -- in its place
         have hmul:(n+xs.length)*z'≤(n+cap)*z':=Nat.mul_le_mul_right _ hfit;rw [Nat.add_mul] at hmul;have hcsz:n*z'+xs.length*z'≤c.size:=(by omega);obtain ⟨m1,m2,m3⟩:=hi.ix hcs hsm;have tV:=run_storeCells_at (P:=P) blk.1 (n*z') ty new 0 c w hh (by rw [n1];omega) n3;have hrun:=fC (type:=type) h0 h1 hu hu1 hsz (base:=some ⟨blk.1,0,none⟩) (len:=n) (cap:=n+cap) (n:=xs.length) (xb:=xb) (xc:=xc) rfl (n4 w hi.known) hfit;simp only [Nat.add_zero] at tV;have hget:(sh.set b none++[some cells])[sh.length]?=some (some cells):=by
           rw [List.getElem?_append_right (by simp)];simp
         have hct:c.toList.take (n*z')=us.take (n*z'):=by
           rw [hsp,List.take_append_of_le_length (by omega)]
         obtain ⟨g1,g2⟩:=m1.nA (cells':=cells.take (n*z')++(xs.flatMap bw).map .pv) (c':=(c.toList.take (n*z')++new++c.toList.drop (n*z'+new.length)).toArray) (vs:=us.take (n*z')++new) (suf:=c.toList.drop (n*z'+new.length))
           hget (by simp [Gh.ix]) hh (by
             have:c.toList.length=c.size:=by simp
             simp only [List.size_toArray,List.length_append,List.length_take,List.length_drop,n1,this];omega)
           (by simp [hct]) (aB.mono m2 (hrel1.append (iu n2))) hlfN hrfN
         have hset:(sh.set b none++[some cells]).set sh.length (some (cells.take (n*z')++(xs.flatMap bw).map .pv))=sh.set b none++[some (cells.take (n*z')++(xs.flatMap bw).map .pv)]:=by
           rw [List.set_append_right _ _ (by simp)];simp
         rw [hset] at g1;refine ⟨.slice (some ⟨blk.1,0,none⟩) (n+xs.length) (n+cap),_,_,?_,?_,g1,m2,m3.trans g2⟩
         · refine Eq.trans hrun ?_;simp only [Addr.ev,Nat.zero_add,tV,Result.andThen_ok]
         · simp only [aC];refine ⟨blk,cap-xs.length,by simp [Gh.ix],?_,?_⟩
           · have:n+xs.length+(cap-xs.length)=n+cap:=by omega
             rw [this]
           · have:n+xs.length+(cap-xs.length)=n+cap:=by omega
             rw [this];exact hroom
   · simp at h
 · simp at h
theorem zW {c:Call} {A:lf} {dst:Option Nat} {args:List Operand} {sz:Nat} {z:List PV} (h:cm P ns A dst (.call c)=some (.gK sz z,args)) :
   ∃x t e,c.callee=.builtin .clear∧c.args=#[x]∧args=[x]∧c.argTypes[0]?=some t∧P.underlying t=some (.slice e)∧cW P e=some sz∧cT P e=some z∧z.length=sz∧0<sz:=by
 obtain ⟨callee,cargs,ctypes⟩:=c;simp only [cm] at h;split at h
 · split at h<;>simp at h
 · split at h<;>simp at h
 · split at h<;>simp at h
 · split at h
   · split at h
     · rw [Option.ite_none_right_eq_some] at h;obtain ⟨_,h⟩:=h;split at h
       · simp at h
       · split at h<;>simp at h
     · simp at h
   · simp at h
 · rename_i hcal;split at h
   · rename_i x e ha ht;split at h
     · rename_i sz' z' hs hz;simp only [Option.ite_none_right_eq_some,Option.some.injEq,Prod.mk.injEq,AK.gK.injEq] at h;obtain ⟨⟨h1,h2⟩,⟨rfl,rfl⟩,rfl⟩:=h;simp only [Option.bind_eq_some_iff] at ht;obtain ⟨t,ht,htu⟩:=ht;exact ⟨x,t,e,rfl,by apply Array.ext';simpa using ha,rfl,ht,d3 htu,hs,hz,h1,h2⟩
     · simp at h
   · simp at h
 · split at h
   · split at h<;>simp at h
   · simp at h
 · split at h
   · split at h
     · (repeat' (split at h))<;>simp at h
     · split at h
       · simp at h
       · split at h
         · simp at h
         · split at h<;>simp at h
   · simp at h
 · split at h<;>simp at h
 · simp at h
theorem DE {l:Array Value} {z:List PV} {n:Nat} (hz:cL d0 l.toList=some z) (hs0:0<z.length) :
   aB (num ns) G ((List.replicate n (z.map AV.pv)).flatten) (Builtin.zeroCells l n).toList∧((List.replicate n (z.map AV.pv)).flatten).all dS=true∧∀k,((List.replicate n (z.map AV.pv)).flatten).all (aW k)=true:=by
 obtain ⟨zr,zl⟩:=kb (G:=G) (ρ:=num ns) hz;have hzs:l.size=z.length:=by have:=gD hz;simp at this;omega
 refine ⟨?_,?_,?_⟩
 · refine iQ (by simp [Builtin.zeroCells,hzs]) fun j x v hx hv=>?_
   have hlt:j<n*z.length:=by have:=(List.getElem?_eq_some_iff.1 hx).1;simpa using this
   rw [d6 _ _ _ (by simpa using hlt)] at hx;obtain ⟨v',g1,g2⟩:=zr.get hx;have:v=v':=by
     simp only [Builtin.zeroCells,Array.toList_map,List.getElem?_map,Array.toList_range,Option.map_eq_some_iff] at hv;obtain ⟨j',hj',hv⟩:=hv;rw [List.getElem?_range (by rw [hzs];exact hlt)] at hj';cases hj';simp only [List.length_map] at g1;rw [hzs] at hv;have hm:j % z.length<l.size:=by rw [hzs];exact Nat.mod_lt _ hs0
     rw [getElem!_pos l (j % z.length) hm] at hv;have g1':l[j % z.length]?=some v':=by simpa using g1
     rw [Array.getElem?_eq_getElem hm] at g1';simp at g1';rw [←hv,g1']
   subst this;exact g2
 · rw [List.all_eq_true] at *;intro x hx;simp only [List.mem_flatten,List.mem_replicate] at hx;obtain ⟨l,⟨_,rfl⟩,hx⟩:=hx;exact zl x hx
 · intro k;have:=ve k z;rw [List.all_eq_true] at *;intro x hx;simp only [List.mem_flatten,List.mem_replicate] at hx;obtain ⟨l,⟨_,rfl⟩,hx⟩:=hx;exact this x hx
theorem vf {argTypes:Array TypeId} {type t e sz:Nat} {z:List PV} {x:AV} {v:Value} {mem:List (Nat×List AV)} {sh sh':Sh} {ah:aN}
   (h0:argTypes[0]?=some t) (hu:P.underlying t=some (.slice e)) (hz:cT P e=some z) (hzl:z.length=sz) (hs0:0<sz)
   (hx:aC (num ns) G x v) (hi:Inv (num ns) G w mem sh ah) (h:mM sz z sh (qO sz x)=some sh') :
   ∃w',(Builtin.clear_ argTypes type #[v]).run P w=.ok (.tuple #[]) w'∧Inv (num ns) G w' mem sh' ah∧cq G w G w':=by
 cases hsub:qO sz x with
 | none=>rw [hsub] at h;simp [mM] at h
 | some q=>
   obtain ⟨b,off,n⟩:=q;rw [hsub] at h;have hv:∃blk base cap,G.sm b=some blk∧v=.slice base n cap∧(n=0∨base=some ⟨blk.1,off,none⟩):=by
     unfold qO at hsub;split at hsub
     · simp only [Option.ite_none_right_eq_some,Option.some.injEq,Prod.mk.injEq] at hsub;obtain ⟨rfl,rfl,rfl,rfl⟩:=hsub;simp only [aC] at hx;obtain ⟨blk,cap,e1,e2,_⟩:=hx;exact ⟨blk,_,_,e1,e2,.inr rfl⟩
     · simp only [Option.some.injEq,Prod.mk.injEq] at hsub;obtain ⟨rfl,rfl,rfl⟩:=hsub;simpa only [aC] using hx
     · simp at hsub
   obtain ⟨blk,base,cap,hsm,rfl,hbase⟩:=hv;simp only [mM] at h;split at h
   · rename_i cells hcs;simp only [Option.ite_none_right_eq_some,Option.some.injEq] at h;obtain ⟨⟨hmb,hle,_⟩,rfl⟩:=h;by_cases hn:n=0
     · subst hn;have e1:bn cells off ((List.replicate 0 (z.map AV.pv)).flatten)=cells:=by simp [bn]
       have e2:sh.set b (some cells)=sh:=by
         apply List.ext_getElem?
         intro j;rw [List.getElem?_set];split
         · rename_i e;subst e;split
           · exact hcs.symm
           · rename_i hj;rw [List.getElem?_eq_none (by omega)] at hcs;simp at hcs
         · rfl
       rw [e1,e2];refine ⟨w,?_,hi,cq.refl G w⟩;cases base<;>simp [Builtin.clear_,h0,run_underlying hu]
     · have hb:=hbase.resolve_left hn;subst hb;obtain ⟨blk',hp',hblk,hlf,hrf⟩:=hi.dP _ _ hcs;rw [hsm] at hp';cases hp';obtain ⟨_,c,ty,us,suf,hh,hcz,hsp,hrel⟩:=hblk.cells hmb;have hul:us.length=cells.length:=hrel.length;obtain ⟨zv,hz1,hz2⟩:=gE (P:=P) (w:=w) hz;have hz0:0<z.length:=(by omega);obtain ⟨zr,zl,zf⟩:=DE (ns:=ns) (G:=G) (n:=n) hz2 hz0;have hone:∀u∈(Builtin.zeroCells zv.cells n).toList,u.oneCell'=true:=ka zr (iP zl);have hzn:(Builtin.zeroCells zv.cells n).toList.length=n*sz:=(by rw [zr.length];simp [hzl]);have hcl:c.toList.length=us.length+suf.length:=(by rw [hsp];simp);have hcl':c.size=us.length+suf.length:=(by simpa using hcl);have tV:=run_storeCells_at (P:=P) blk.1 off ty (Builtin.zeroCells zv.cells n).toList 0 c w hh (by rw [hzn];omega) hone;simp only [Nat.add_zero] at tV;have hctt:c.toList.take off=us.take off:=(by rw [hsp,List.take_append_of_le_length (by omega)]);have hcd:c.toList.drop (off+(Builtin.zeroCells zv.cells n).toList.length)=us.drop (off+(Builtin.zeroCells zv.cells n).toList.length)++suf:=by
         rw [hsp,List.drop_append_of_le_length (by rw [hzn];omega)]
       have hleaf:(bn cells off ((List.replicate n (z.map AV.pv)).flatten)).all dS=true:=by
         rw [List.all_eq_true] at *;intro y hy;simp only [bn,List.mem_append] at hy;rcases hy with (hy | hy) | hy
         · exact hlf y (List.mem_of_mem_take hy)
         · exact zl y hy
         · exact hlf y (List.mem_of_mem_drop hy)
       have hrefs:(bn cells off ((List.replicate n (z.map AV.pv)).flatten)).all (aW (b+1))=true:=by
         have zf':=zf (b+1);rw [List.all_eq_true] at *;intro y hy;simp only [bn,List.mem_append] at hy;rcases hy with (hy | hy) | hy
         · exact hrf y (List.mem_of_mem_take hy)
         · exact zf' y hy
         · exact hrf y (List.mem_of_mem_drop hy)
       have hrel':aB (num ns) G (bn cells off ((List.replicate n (z.map AV.pv)).flatten)) (us.take off++(Builtin.zeroCells zv.cells n).toList++us.drop (off+(Builtin.zeroCells zv.cells n).toList.length)):=fy off hrel zr;obtain ⟨g1,g2⟩:=hi.nA (cells':=bn cells off ((List.replicate n (z.map AV.pv)).flatten)) (c':=(c.toList.take off++(Builtin.zeroCells zv.cells n).toList++c.toList.drop (off+(Builtin.zeroCells zv.cells n).toList.length)).toArray)
         (vs:=us.take off++(Builtin.zeroCells zv.cells n).toList++us.drop (off+(Builtin.zeroCells zv.cells n).toList.length)) (suf:=suf) hcs hsm hh (by
           simp only [List.size_toArray,List.length_append,List.length_take,List.length_drop,hzn,hcl];rw [←hcz,hcl'];omega)
         (by simp only [hctt,hcd,List.append_assoc]) hrel' hleaf hrefs
       refine ⟨_,?_,g1,g2⟩;cases n with
       | zero=>exact absurd rfl hn
       | succ n=>
         simp only [Builtin.clear_,h0];simp [run_underlying hu,hz1,tV]
   · simp at h
end
end Go.Ab
