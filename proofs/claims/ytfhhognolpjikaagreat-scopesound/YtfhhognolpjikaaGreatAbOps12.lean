import Derived.Test.YtfhhognolpjikaaGreatAbOps11
/-
  Each operation that calls nothing.
-/
set_option linter.unusedVariables false
set_option linter.unusedSimpArgs false
set_option maxRecDepth 100000
set_option maxHeartbeats 8000000
namespace Go.Ab
section
variable {P:Program} {ns:Names} {G:Gh} {w:World}
def AK.calls:AK→Bool
 | .aB _ | .dW _ | .aI .. | .jh _ | .eK | .clone ..=>true
 | _=>false
theorem e_ {mem:List (Nat×List AV)} (k:Option Nat):fh mem k none=mem:=by cases k<;>rfl
theorem oT {v:AV} {rv:Value} (h:aC (num ns) G v rv) (hl:(cf v).all bf=true):aA (num ns) G (cf v) rv.cells.toList:=by
 cases v with
 | bB l=>exact aC.cells (x:=.bB l) h hl
 | own l τ=>exact aC.cells (x:=.own l τ) h hl
 | _=>
   simp only [cf] at hl ⊢
   split
   · rename_i p hp
     simp only [hp] at hl
     exact aC.cells (by simp only [aC];exact kX hp h) hl
   · rename_i hp
     simp only [hp] at hl
     exact h.cells hl
theorem cX {mem:List (Nat×List AV)} {sh:Sh} {ah:aL} {s:Sem Value} {s':Sem Next} {x:AV} {v:Value} {w':World} {G':Gh} (hs:s'=(do pure (.value (←s)))) (h1:s.run P w=.ok v w') (h2:aC (num ns) G' x v)
   (h3:Inv (num ns) G' w' mem sh ah) (h4:G.le G') (h5:cm G w G' w'):OC ns P G w mem sh ah s' x:=
 ⟨.value v,v,w',G',by rw [hs];simp only [Sem.run_bind,h1,Result.andThen_ok,Sem.run_pure],.inl rfl,h2,h3,h4,h5⟩
theorem oU {A:nD} {o:Oper} {k:AK} {args:List Operand} {orc:eI} (hc:bY P ns A o.dst o.op=some (k,args)) (hk:k.calls=false) {a:Act} {vals:List AV} {out:Out}
   {mem:List (Nat×List AV)} {sh:Sh} {ah:aL} (hr:aA (num ns) G vals (args.map a.eval)) (hi:Inv (num ns) G w mem sh ah)
   (h:exec orc k vals (k.key.bind (look mem)) sh ah=some out) :
   OC ns P G w (fh mem k.key out.cells) out.sh out.ah (execOp a.eval o) out.val:=by
 obtain ⟨dst,op,type,pos,after,guard⟩:=o
 cases k with
 | v vo=>
   simp only [exec,Option.map_eq_some_iff] at h
   obtain ⟨x,h1,rfl⟩:=h
   obtain ⟨v,w',G',g1,g2,g3,g4,g5⟩:=vz hc hr hi h1
   exact ⟨.value v,v,w',G',g1,.inl rfl,g2,by simpa [e_] using g3,g4,g5⟩
 | aB g=>simp [AK.calls] at hk
 | dW g=>simp [AK.calls] at hk
 | aI g own=>simp [AK.calls] at hk
 | jh g=>simp [AK.calls] at hk
 | eK=>simp [AK.calls] at hk
 | clone sz by_=>simp [AK.calls] at hk
 | ki=>
   obtain ⟨t,rfl,rfl⟩:=vH hc
   obtain ⟨rfl,rfl⟩:=jG h
   obtain ⟨g1,g2,g3⟩:=hi.allocMap
   refine cX (s:=Instr.makeMap t none) (v:=.map (some w.heap.size)) rfl ?_ ?_ g1 g2 g3
   · rfl
   · simp only [aC];exact ⟨(w.heap.size,0),by simp [Gh.cW],rfl⟩
 | ix c ok z=>
   obtain ⟨t,x,i,kt,et,rfl,rfl,hu,hk1,hz⟩:=vJ hc
   obtain ⟨s,k,kvs,r,rfl,hs,hf,rfl⟩:=iJ h
   obtain ⟨x1,x2,e,h1,h2⟩:=dP (by simpa using hr)
   cases e
   simp only [aC] at h1 h2
   obtain ⟨b,hp,hv⟩:=h1
   obtain ⟨b',hp',hblk,_⟩:=hi.dE _ _ hs
   rw [hp] at hp';cases hp'
   obtain ⟨_,o,hh,hold⟩:=hblk
   rcases hold with ⟨_,_,_,_,_,_,_,hbad⟩ | ⟨es,clock,kvs',rfl,e,hm⟩
   · exact absurd (qc hbad) (by simp [cQ])
   · cases e
     obtain ⟨zv,hz1,hz2⟩:=yA (P:=P) (w:=w) (K:=G.K) hz
     obtain ⟨d,hd⟩:=mK hk1
     have hget:(getObj b.1).run P w=.ok (.map es clock) w:=by simp [getObj,Sem.run,hh]
     have key:∃u,(Instr.lookup t (a.eval x) (a.eval i) ok).run P w=.ok u w∧aC (num ns) G (ie ok z r) u:=by
       rcases oK hk1 hd h2 0 hm hf with ⟨rfl,hfn⟩ | ⟨p,v,j,rfl,hfn,hpv⟩
       · refine ⟨if ok then .tuple #[zv,.bool false] else zv,?_,?_⟩
         · rw [hv]
           simp only [Instr.lookup,Sem.run_bind,run_underlying hu,Result.andThen_ok,hget,Sem.run_pure,gh hk1,iV hd hfn,hz1]
         · unfold ie
           cases ok
           · simpa [aC] using hz2
           · simp only [if_true,aC]
             exact ⟨[zv,.bool false],by simp,by simp only [aA,aC];exact ⟨_,_,rfl,by simpa using hz2,_,_,rfl,eR.2 rfl,rfl⟩⟩
       · refine ⟨if ok then .tuple #[v,.bool true] else v,?_,?_⟩
         · rw [hv]
           simp only [Instr.lookup,Sem.run_bind,run_underlying hu,Result.andThen_ok,hget,Sem.run_pure,gh hk1,iV hd hfn]
         · unfold ie
           cases ok
           · simpa [aC] using hpv
           · simp only [if_true,aC]
             exact ⟨[v,.bool true],by simp,by simp only [aA,aC];exact ⟨_,_,rfl,by simpa using hpv,_,_,rfl,eR.2 rfl,rfl⟩⟩
     obtain ⟨u,g1,g2⟩:=key
     exact cX (s:=Instr.lookup t (a.eval x) (a.eval i) ok) (v:=u) (w':=w) rfl g1 g2 (by simpa [e_] using hi) G.le_refl (cm.refl G w)
 | mC c=>
   obtain ⟨t,m,i,x,kt,et,hop,rfl,hu,hk1⟩:=yF hc
   obtain ⟨s,k,v,kvs,p,kvs',rfl,hs,hfz,hput,rfl⟩:=la h
   obtain ⟨x1,x2,x3,e,h1,h2,h3⟩:=oP (by simpa using hr)
   cases e
   have h3:=kX hfz h3
   simp only [aC] at h1 h2
   obtain ⟨b,hp,hv⟩:=h1
   obtain ⟨b',hp',hblk,_⟩:=hi.dE _ _ hs
   rw [hp] at hp';cases hp'
   obtain ⟨_,o,hh,hold⟩:=hblk
   rcases hold with ⟨_,_,_,_,_,_,_,hbad⟩ | ⟨es,clock,kvs0,rfl,e,hm⟩
   · exact absurd (qc hbad) (by simp [cQ])
   · cases e
     obtain ⟨d,hd⟩:=mK hk1
     obtain ⟨es',clock',hrun,hm'⟩:=rR (P:=P) (w:=w) hu hk1 hd hh h2 h3 hm hput
     obtain ⟨g1,g2⟩:=hi.Gn (es:=es') (clock:=clock') hs hp hm'
     have:(execOp a.eval ⟨dst,op,type,pos,after,guard⟩).run P w=.ok .skip (w.putObj b.1 (.map es' clock')):=by
       rcases hop with rfl | rfl<;>simp [execOp,hv,hrun]
     exact ⟨.skip,undef,_,G,this,.inr ⟨rfl,rfl⟩,by simp [aC],by simpa [AK.key,fh] using g1,G.le_refl,g2⟩
 | bj key off sz ag=>
   obtain ⟨t,tx,rfl,rfl,hsz,hag⟩:=vD hc
   obtain ⟨cs,x,rfl,hcs,hx,rfl⟩:=gN h
   simp only [AK.key,Option.bind_some] at hcs
   obtain ⟨x',e,h1⟩:=cG (by simpa using hr)
   cases e
   simp only [aC] at h1
   obtain ⟨b,hp,hv⟩:=h1
   obtain ⟨b',hp',hblk,_⟩:=hi.cS _ _ hcs
   rw [hp] at hp';cases hp'
   obtain ⟨_,c,ty,hh,hrel⟩:=hblk
   obtain ⟨u,g1,g2⟩:=il (w:=w) hsz hag hx hrel (ja hh)
   refine cX (s:=Instr.loadAt t (a.eval (.tmp tx))) (v:=u) (w':=w) rfl ?_ g2 (by simpa [e_] using hi) G.le_refl (cm.refl G w)
   rw [hv];simp [Instr.loadAt,Instr.sureAddr,g1]
 | aZ sz ag=>
   obtain ⟨t,tx,rfl,rfl,hsz,hag⟩:=vE hc
   obtain ⟨p,x,rfl,rfl,hor⟩:=lY h
   obtain ⟨x',e,h1⟩:=cG (by simpa using hr)
   cases e
   rcases hor with ⟨cs,rfl,hx⟩ | ⟨s,off,cs,rfl,hcs,hx⟩
   · simp only [aC] at h1
     obtain ⟨b,o,vs,hv,ha,hrl⟩:=h1
     obtain ⟨u,g1,g2⟩:=lJ (ns:=ns) (w:=w) hsz hag hx hrl (fun j v hj=>hi.known _ _ _ (ha j v hj))
     refine cX (s:=Instr.loadAt t (a.eval (.tmp tx))) (v:=u) (w':=w) rfl ?_ g2 (by simpa [e_] using hi) G.le_refl (cm.refl G w)
     rw [hv];simp [Instr.loadAt,Instr.sureAddr,g1]
   · obtain ⟨hmb,hx⟩:=hx
     simp only [aC] at h1
     obtain ⟨b,hp,hv⟩:=h1
     obtain ⟨b',hp',hblk,_⟩:=hi.dE _ _ hcs
     rw [hp] at hp';cases hp'
     obtain ⟨_,c,ty,vs,suf,hh,_,hsp,hrel⟩:=hblk.cells hmb
     obtain ⟨u,g1,g2⟩:=il (w:=w) hsz hag hx hrel (mH hh hsp)
     refine cX (s:=Instr.loadAt t (a.eval (.tmp tx))) (v:=u) (w':=w) rfl ?_ g2 (by simpa [e_] using hi) G.le_refl (cm.refl G w)
     rw [hv];simp [Instr.loadAt,Instr.sureAddr,g1]
 | cT key off sz=>
   obtain ⟨t,tx,v,rfl,rfl,hsz⟩:=tN hc
   obtain ⟨cs,x,rfl,hcs,hl,hlf,hle,rfl⟩:=gW h
   simp only [AK.key,Option.bind_some] at hcs
   obtain ⟨x1,x2,e,h1,h2⟩:=dP (by simpa using hr)
   cases e
   simp only [aC] at h1
   obtain ⟨b,hp,hv⟩:=h1
   obtain ⟨b',hp',hblk,hcl⟩:=hi.cS _ _ hcs
   rw [hp] at hp';cases hp'
   obtain ⟨_,c,ty,hh,hrel⟩:=hblk
   have hcells:=h2.cells hlf
   have hcsz:(a.eval v).cells.size=sz:=by have:=hcells.length;simp at this;omega
   have hsize:=hrel.length
   simp at hsize
   have hrun:=mL (P:=P) (w:=w) hsz hcsz hh (off:=off) (by omega) (jA hcells hlf)
   obtain ⟨g1,g2⟩:=hi.CM (cells':=bu cs off (bn x)) hcs hp (c':=(c.toList.take off++(a.eval v).cells.toList++c.toList.drop (off+(a.eval v).cells.toList.length)).toArray)
     (by simpa using gg off hrel hcells) (im hcl hlf)
   refine ⟨.skip,undef,_,G,?_,.inr ⟨rfl,rfl⟩,by simp [aC],g1,G.le_refl,g2⟩
   simp [execOp,hv,Instr.storeAt,Instr.sureAddr,hrun]
 | cU sz=>
   obtain ⟨t,tx,v,rfl,rfl,hsz⟩:=tO hc
   obtain ⟨s,off,x,cs,rfl,hcs,hmb,hl,hle,hlf,hrf,rfl⟩:=iZ h
   obtain ⟨x1,x2,e,h1,h2⟩:=dP (by simpa using hr)
   cases e
   simp only [aC] at h1
   obtain ⟨b,hp,hv⟩:=h1
   obtain ⟨b',hp',hblk,hcl,hcr⟩:=hi.dE _ _ hcs
   rw [hp] at hp';cases hp'
   obtain ⟨_,c,ty,vs,suf,hh,hcz,hsp,hrel⟩:=hblk.cells hmb
   have hcells:=oT h2 (kY hlf)
   have hcsz:(a.eval v).cells.size=sz:=by have:=hcells.length;simp at this;omega
   have hsize:=hrel.length
   have hcl2:c.size=vs.length+suf.length:=by rw [←Array.length_toList,hsp,List.length_append]
   have hnl:(a.eval v).cells.toList.length=sz:=by simpa using hcsz
   have hrun:=mL (P:=P) (w:=w) hsz hcsz hh (off:=off) (by omega) (jA hcells (kY hlf))
   obtain ⟨g1,g2⟩:=hi.qi (cells':=bu cs off (cf x)) hcs hp hh (c':=(c.toList.take off++(a.eval v).cells.toList++c.toList.drop (off+(a.eval v).cells.toList.length)).toArray)
     (suf:=suf) (vs:=vs.take off++(a.eval v).cells.toList++vs.drop (off+(a.eval v).cells.toList.length))
     (by rw [←hcz];simp;omega)
     (by
       show c.toList.take off++(a.eval v).cells.toList++c.toList.drop (off+(a.eval v).cells.toList.length)=_
       rw [hsp,List.take_append_of_le_length (by omega),List.drop_append_of_le_length (by omega)]
       simp [List.append_assoc])
     (gg off hrel hcells) (im hcl hlf) (im hcr hrf)
   refine ⟨.skip,undef,_,G,?_,.inr ⟨rfl,rfl⟩,by simp [aC],by simpa [AK.key,fh] using g1,G.le_refl,g2⟩
   simp [execOp,hv,Instr.storeAt,Instr.sureAddr,hrun]
 | alloc key z=>
   obtain ⟨t,rfl,rfl,hz,rfl⟩:=vF hc
   obtain ⟨rfl,hcs,rfl⟩:=iI h
   simp only [AK.key,Option.bind_some] at hcs
   obtain ⟨zv,hz1,hz2⟩:=gM (P:=P) (w:=w) hz
   obtain ⟨zr,zl⟩:=gQ (G:=G) (ρ:=num ns) hz2
   obtain ⟨g1,g2,g3⟩:=hi.sE (c:=zv.cells) t hcs zr zl
   refine cX (s:=Instr.alloc t true (.tuple #[])) (v:=.pointer (some ⟨w.heap.size,0,none⟩)) rfl ?_ ?_ g1 g2 g3
   · simp only [Instr.alloc,Sem.run_bind,hz1,Result.andThen_ok,jB,Sem.run_pure]
   · simp only [aC];exact ⟨_,by simp [Gh.dI],rfl⟩
 | box key sz=>
   obtain ⟨t,y,rfl,rfl,hsz,rfl⟩:=CS hc
   obtain ⟨x,rfl,hcs,hl,hlf,rfl⟩:=kx h
   simp only [AK.key,Option.bind_some] at hcs
   obtain ⟨x',e,h1⟩:=cG (by simpa using hr)
   cases e
   have hcells:=h1.cells hlf
   obtain ⟨g1,g2,g3⟩:=hi.sE (c:=(a.eval y).cells) t hcs hcells hlf
   refine cX (s:=Instr.box t (a.eval y)) (v:=.pointer (some ⟨w.heap.size,0,none⟩)) rfl ?_ ?_ g1 g2 g3
   · simp only [Instr.box,Sem.run_bind,jB,Result.andThen_ok,Sem.run_pure]
   · simp only [aC];exact ⟨_,by simp [Gh.dI],rfl⟩
 | hH z=>
   obtain ⟨t,rfl,rfl,hz⟩:=tP hc
   obtain ⟨rfl,rfl⟩:=i4 h
   obtain ⟨zv,hz1,hz2⟩:=gM (P:=P) (w:=w) hz
   obtain ⟨zr,zl⟩:=gQ (G:=G) (ρ:=num ns) hz2
   obtain ⟨g1,g2,g3⟩:=hi.qj (c:=zv.cells) t zr zl (CQ _ z)
   refine cX (s:=Instr.alloc t true (.tuple #[])) (v:=.pointer (some ⟨w.heap.size,0,none⟩)) rfl ?_ ?_ g1 g2 g3
   · simp only [Instr.alloc,Sem.run_bind,hz1,Result.andThen_ok,jB,Sem.run_pure]
   · simp only [aC];exact ⟨(w.heap.size,zv.cells.size),by simp [Gh.cW],rfl⟩
 | lS sz=>
   obtain ⟨t,y,rfl,rfl,hsz⟩:=yE hc
   obtain ⟨x,rfl,hl,hlf,hrf,rfl⟩:=kZ h
   obtain ⟨x',e,h1⟩:=cG (by simpa using hr)
   cases e
   have hcells:=oT h1 (kY hlf)
   obtain ⟨g1,g2,g3⟩:=hi.qj (c:=(a.eval y).cells) t hcells hlf (jE (Nat.le_succ _) hrf)
   refine cX (s:=Instr.box t (a.eval y)) (v:=.pointer (some ⟨w.heap.size,0,none⟩)) rfl ?_ ?_ g1 g2 g3
   · simp only [Instr.box,Sem.run_bind,jB,Result.andThen_ok,Sem.run_pure]
   · simp only [aC];exact ⟨(w.heap.size,(a.eval y).cells.size),by simp [Gh.cW],rfl⟩
 | jg sz by_ ag z=>
   obtain ⟨t,e,l,c,rfl,rfl,hu,hsz,hby,hz,hzl,h0⟩:=vG hc
   obtain ⟨k,k',n,rfl,h1,h2,h3,_,rfl⟩:=jF h
   obtain ⟨x1,x2,e',r1,r2⟩:=dP (by simpa using hr)
   cases e'
   obtain ⟨v,w',G',g1,g2,g3,g4,g5⟩:=vB (k:=k) (k':=k') (ag:=ag) hu hsz hby hz hzl h0 h1 h2 h3 hi
   refine cX (s:=Instr.makeSlice t (a.eval l) (a.eval c)) rfl ?_ g2 g3 g4 g5
   rw [oR r1,oR r2];exact g1
 | append sz by_=>
   obtain ⟨c,rfl⟩:=tQ hc
   obtain ⟨x,y,t,e,t1,e1,z,hcal,hargs,rfl,h0,h1,hu,hu1,hsz,hby,hz,hzl,hs0,hb0⟩:=yB hc
   obtain ⟨s,x',y',ts,rfl,happ,rfl⟩:=i5 h
   obtain ⟨x1,x2,e',r1,r2⟩:=dP (by simpa using hr)
   cases e'
   obtain ⟨v,w',G',g1,g2,g3,g4,g5⟩:=tL (type:=type) h0 h1 hu hu1 hsz hby hz hzl hb0 r1 r2 hi happ
   refine cX (s:=Builtin.append_ c.argTypes type #[a.eval x,a.eval y]) ?_ g1 g2 g3 g4 g5
   obtain ⟨callee,cargs,ctypes⟩:=c
   simp only at hcal hargs
   subst hcal;subst hargs
   simp [execOp,resolve,invoke,builtin]
 | c_ sz by_ ag=>
   obtain ⟨c,rfl⟩:=rT hc
   obtain ⟨x,y,t,e,t1,e1,z,hcal,hargs,rfl,h0,h1,hu,hu1,hsz,hby,hz,hzl,hs0,hb0⟩:=vA hc
   obtain ⟨s,x',xs,y',sh',rfl,hxs,hhx,happ,rfl⟩:=jH h
   obtain ⟨x1,x2,e',r1,r2⟩:=dP (by simpa using hr)
   cases e'
   obtain ⟨v,w',G',g1,g2,g3,g4,g5⟩:=rS (type:=type) h0 h1 hu hu1 hsz hby hz hzl hb0 r1 r2 hi hxs hhx happ
   refine cX (s:=Builtin.append_ c.argTypes type #[a.eval x,a.eval y]) ?_ g1 g2 g3 g4 g5
   obtain ⟨callee,cargs,ctypes⟩:=c
   simp only at hcal hargs
   subst hcal;subst hargs
   simp [execOp,resolve,invoke,builtin]
 | fR sz z=>
   obtain ⟨c,rfl⟩:=tR hc
   obtain ⟨x,t,e,hcal,hargs,rfl,h0,hu,hsz,hz,hzl,hs0⟩:=yD hc
   obtain ⟨x',sh',rfl,hcl,rfl⟩:=oS h
   obtain ⟨x1,e',r1⟩:=cG (by simpa using hr)
   cases e'
   obtain ⟨w',g1,g2,g3⟩:=tM (type:=type) h0 hu hz hzl hs0 r1 hi hcl
   refine cX (s:=Builtin.clear_ c.argTypes type #[a.eval x]) (v:=.tuple #[]) ?_ g1 (by simp only [aC];exact ⟨[],rfl,by simp [aA]⟩) g2 G.le_refl g3
   obtain ⟨callee,cargs,ctypes⟩:=c
   simp only at hcal hargs
   subst hcal;subst hargs
   simp [execOp,resolve,invoke,builtin]
end
end Go.Ab
