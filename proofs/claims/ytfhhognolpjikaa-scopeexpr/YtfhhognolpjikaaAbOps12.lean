import Derived.Test.YtfhhognolpjikaaAbOps11
/-
  Each operation that calls nothing.
-/
set_option linter.unusedVariables false
set_option linter.unusedSimpArgs false
set_option maxRecDepth 100000
set_option maxHeartbeats 8000000
namespace Go.Ab
section
variable {P:Program} {ns:Names} {G:Gh} {w:World}
def AK.calls:AK→Bool
 | .aB _ | .eI _ | .aA .. | .hP _ | .eB | .clone ..=>true
 | _=>false
theorem eo {mem:List (Nat×List AV)} (k:Option Nat):ew mem k none=mem:=by cases k<;>rfl
theorem lU {v:AV} {rv:Value} (h:aq (num ns) G v rv) (hl:(bK v).all aP=true):al (num ns) G (bK v) rv.cells.toList:=by
 cases v with
 | bR l=>exact aq.cells (x:=.bR l) h hl
 | own l τ=>exact aq.cells (x:=.own l τ) h hl
 | _=>
   simp only [bK] at hl ⊢
   split
   · rename_i p hp
     simp only [hp] at hl
     exact aq.cells (by simp only [aq];exact jm hp h) hl
   · rename_i hp
     simp only [hp] at hl
     exact h.cells hl
theorem bW {mem:List (Nat×List AV)} {sh:Sh} {aa:au} {s:Sem Value} {s':Sem Next} {x:AV} {v:Value} {w':World} {G':Gh} (hs:s'=(do pure (.value (←s)))) (h1:s.run P w=.ok v w') (h2:aq (num ns) G' x v)
   (h3:Inv (num ns) G' w' mem sh aa) (h4:G.le G') (h5:bJ G w G' w'):GK ns P G w mem sh aa s' x:=
 ⟨.value v,v,w',G',by rw [hs];simp only [Sem.run_bind,h1,Result.andThen_ok,Sem.run_pure],.inl rfl,h2,h3,h4,h5⟩
theorem lV {A:ki} {o:Oper} {k:AK} {args:List Operand} {orc:d0} (hc:bp P ns A o.dst o.op=some (k,args)) (hk:k.calls=false) {a:Act} {vals:List AV} {out:Out}
   {mem:List (Nat×List AV)} {sh:Sh} {aa:au} (hr:al (num ns) G vals (args.map a.eval)) (hi:Inv (num ns) G w mem sh aa)
   (h:exec orc k vals (k.key.bind (look mem)) sh aa=some out) :
   GK ns P G w (ew mem k.key out.cells) out.sh out.aa (execOp a.eval o) out.val:=by
 obtain ⟨dst,op,type,pos,after,guard⟩:=o
 cases k with
 | v vo=>
   simp only [exec,Option.map_eq_some_iff] at h
   obtain ⟨x,h1,rfl⟩:=h
   obtain ⟨v,w',G',g1,g2,g3,g4,g5⟩:=qH hc hr hi h1
   exact ⟨.value v,v,w',G',g1,.inl rfl,g2,by simpa [eo] using g3,g4,g5⟩
 | aB g=>simp [AK.calls] at hk
 | eI g=>simp [AK.calls] at hk
 | aA g own=>simp [AK.calls] at hk
 | hP g=>simp [AK.calls] at hk
 | eB=>simp [AK.calls] at hk
 | clone sz by_=>simp [AK.calls] at hk
 | kj=>
   obtain ⟨t,rfl,rfl⟩:=qT hc
   obtain ⟨rfl,rfl⟩:=iy h
   obtain ⟨g1,g2,g3⟩:=hi.allocMap
   refine bW (s:=Instr.makeMap t none) (v:=.map (some w.heap.size)) rfl ?_ ?_ g1 g2 g3
   · rfl
   · simp only [aq];exact ⟨(w.heap.size,0),by simp [Gh.cq],rfl⟩
 | hH c ok z=>
   obtain ⟨t,x,i,kt,et,rfl,rfl,hu,hk1,hz⟩:=qU hc
   obtain ⟨s,k,kvs,r,rfl,hs,hf,rfl⟩:=gC h
   obtain ⟨x1,x2,e,h1,h2⟩:=dc (by simpa using hr)
   cases e
   simp only [aq] at h1 h2
   obtain ⟨b,hp,hv⟩:=h1
   obtain ⟨b',hp',hblk,_⟩:=hi.cY _ _ hs
   rw [hp] at hp';cases hp'
   obtain ⟨_,o,hh,hold⟩:=hblk
   rcases hold with ⟨_,_,_,_,_,_,_,hbad⟩ | ⟨es,clock,kvs',rfl,e,hm⟩
   · exact absurd (mO hbad) (by simp [cA])
   · cases e
     obtain ⟨zv,hz1,hz2⟩:=tv (P:=P) (w:=w) (K:=G.K) hz
     obtain ⟨d,hd⟩:=ku hk1
     have hget:(getObj b.1).run P w=.ok (.map es clock) w:=by simp [getObj,Sem.run,hh]
     have key:∃u,(Instr.lookup t (a.eval x) (a.eval i) ok).run P w=.ok u w∧aq (num ns) G (fY ok z r) u:=by
       rcases lM hk1 hd h2 0 hm hf with ⟨rfl,hfn⟩ | ⟨p,v,j,rfl,hfn,hpv⟩
       · refine ⟨if ok then .tuple #[zv,.bool false] else zv,?_,?_⟩
         · rw [hv]
           simp only [Instr.lookup,Sem.run_bind,run_underlying hu,Result.andThen_ok,hget,Sem.run_pure,eY hk1,gO hd hfn,hz1]
         · unfold fY
           cases ok
           · simpa [aq] using hz2
           · simp only [if_true,aq]
             exact ⟨[zv,.bool false],by simp,by simp only [al,aq];exact ⟨_,_,rfl,by simpa using hz2,_,_,rfl,ed.2 rfl,rfl⟩⟩
       · refine ⟨if ok then .tuple #[v,.bool true] else v,?_,?_⟩
         · rw [hv]
           simp only [Instr.lookup,Sem.run_bind,run_underlying hu,Result.andThen_ok,hget,Sem.run_pure,eY hk1,gO hd hfn]
         · unfold fY
           cases ok
           · simpa [aq] using hpv
           · simp only [if_true,aq]
             exact ⟨[v,.bool true],by simp,by simp only [al,aq];exact ⟨_,_,rfl,by simpa using hpv,_,_,rfl,ed.2 rfl,rfl⟩⟩
     obtain ⟨u,g1,g2⟩:=key
     exact bW (s:=Instr.lookup t (a.eval x) (a.eval i) ok) (v:=u) (w':=w) rfl g1 g2 (by simpa [eo] using hi) G.le_refl (bJ.refl G w)
 | mG c=>
   obtain ⟨t,m,i,x,kt,et,hop,rfl,hu,hk1⟩:=tE hc
   obtain ⟨s,k,v,kvs,p,kvs',rfl,hs,hfz,hput,rfl⟩:=js h
   obtain ⟨x1,x2,x3,e,h1,h2,h3⟩:=i5 (by simpa using hr)
   cases e
   have h3:=jm hfz h3
   simp only [aq] at h1 h2
   obtain ⟨b,hp,hv⟩:=h1
   obtain ⟨b',hp',hblk,_⟩:=hi.cY _ _ hs
   rw [hp] at hp';cases hp'
   obtain ⟨_,o,hh,hold⟩:=hblk
   rcases hold with ⟨_,_,_,_,_,_,_,hbad⟩ | ⟨es,clock,kvs0,rfl,e,hm⟩
   · exact absurd (mO hbad) (by simp [cA])
   · cases e
     obtain ⟨d,hd⟩:=ku hk1
     obtain ⟨es',clock',hrun,hm'⟩:=nV (P:=P) (w:=w) hu hk1 hd hh h2 h3 hm hput
     obtain ⟨g1,g2⟩:=hi.AU (es:=es') (clock:=clock') hs hp hm'
     have:(execOp a.eval ⟨dst,op,type,pos,after,guard⟩).run P w=.ok .skip (w.putObj b.1 (.map es' clock')):=by
       rcases hop with rfl | rfl<;>simp [execOp,hv,hrun]
     exact ⟨.skip,undef,_,G,this,.inr ⟨rfl,rfl⟩,by simp [aq],by simpa [AK.key,ew] using g1,G.le_refl,g2⟩
 | de key off sz ag=>
   obtain ⟨t,tx,rfl,rfl,hsz,hag⟩:=qO hc
   obtain ⟨cs,x,rfl,hcs,hx,rfl⟩:=ft h
   simp only [AK.key,Option.bind_some] at hcs
   obtain ⟨x',e,h1⟩:=bY (by simpa using hr)
   cases e
   simp only [aq] at h1
   obtain ⟨b,hp,hv⟩:=h1
   obtain ⟨b',hp',hblk,_⟩:=hi.cm _ _ hcs
   rw [hp] at hp';cases hp'
   obtain ⟨_,c,ty,hh,hrel⟩:=hblk
   obtain ⟨u,g1,g2⟩:=gf (w:=w) hsz hag hx hrel (gY hh)
   refine bW (s:=Instr.loadAt t (a.eval (.tmp tx))) (v:=u) (w':=w) rfl ?_ g2 (by simpa [eo] using hi) G.le_refl (bJ.refl G w)
   rw [hv];simp [Instr.loadAt,Instr.sureAddr,g1]
 | aR sz ag=>
   obtain ⟨t,tx,rfl,rfl,hsz,hag⟩:=qP hc
   obtain ⟨p,x,rfl,rfl,hor⟩:=jX h
   obtain ⟨x',e,h1⟩:=bY (by simpa using hr)
   cases e
   rcases hor with ⟨cs,rfl,hx⟩ | ⟨s,off,cs,rfl,hcs,hx⟩
   · simp only [aq] at h1
     obtain ⟨b,o,vs,hv,ha,hrl⟩:=h1
     obtain ⟨u,g1,g2⟩:=jJ (ns:=ns) (w:=w) hsz hag hx hrl (fun j v hj=>hi.known _ _ _ (ha j v hj))
     refine bW (s:=Instr.loadAt t (a.eval (.tmp tx))) (v:=u) (w':=w) rfl ?_ g2 (by simpa [eo] using hi) G.le_refl (bJ.refl G w)
     rw [hv];simp [Instr.loadAt,Instr.sureAddr,g1]
   · obtain ⟨hmb,hx⟩:=hx
     simp only [aq] at h1
     obtain ⟨b,hp,hv⟩:=h1
     obtain ⟨b',hp',hblk,_⟩:=hi.cY _ _ hcs
     rw [hp] at hp';cases hp'
     obtain ⟨_,c,ty,vs,suf,hh,_,hsp,hrel⟩:=hblk.cells hmb
     obtain ⟨u,g1,g2⟩:=gf (w:=w) hsz hag hx hrel (ko hh hsp)
     refine bW (s:=Instr.loadAt t (a.eval (.tmp tx))) (v:=u) (w':=w) rfl ?_ g2 (by simpa [eo] using hi) G.le_refl (bJ.refl G w)
     rw [hv];simp [Instr.loadAt,Instr.sureAddr,g1]
 | d4 key off sz=>
   obtain ⟨t,tx,v,rfl,rfl,hsz⟩:=po hc
   obtain ⟨cs,x,rfl,hcs,hl,hlf,hle,rfl⟩:=fK h
   simp only [AK.key,Option.bind_some] at hcs
   obtain ⟨x1,x2,e,h1,h2⟩:=dc (by simpa using hr)
   cases e
   simp only [aq] at h1
   obtain ⟨b,hp,hv⟩:=h1
   obtain ⟨b',hp',hblk,hcl⟩:=hi.cm _ _ hcs
   rw [hp] at hp';cases hp'
   obtain ⟨_,c,ty,hh,hrel⟩:=hblk
   have hcells:=h2.cells hlf
   have hcsz:(a.eval v).cells.size=sz:=by have:=hcells.length;simp at this;omega
   have hsize:=hrel.length
   simp at hsize
   have hrun:=kz (P:=P) (w:=w) hsz hcsz hh (off:=off) (by omega) (iq hcells hlf)
   obtain ⟨g1,g2⟩:=hi.xI (cells':=aN cs off (aX x)) hcs hp (c':=(c.toList.take off++(a.eval v).cells.toList++c.toList.drop (off+(a.eval v).cells.toList.length)).toArray)
     (by simpa using ee off hrel hcells) (gg hcl hlf)
   refine ⟨.skip,undef,_,G,?_,.inr ⟨rfl,rfl⟩,by simp [aq],g1,G.le_refl,g2⟩
   simp [execOp,hv,Instr.storeAt,Instr.sureAddr,hrun]
 | cz sz=>
   obtain ⟨t,tx,v,rfl,rfl,hsz⟩:=pq hc
   obtain ⟨s,off,x,cs,rfl,hcs,hmb,hl,hle,hlf,hrf,rfl⟩:=gS h
   obtain ⟨x1,x2,e,h1,h2⟩:=dc (by simpa using hr)
   cases e
   simp only [aq] at h1
   obtain ⟨b,hp,hv⟩:=h1
   obtain ⟨b',hp',hblk,hcl,hcr⟩:=hi.cY _ _ hcs
   rw [hp] at hp';cases hp'
   obtain ⟨_,c,ty,vs,suf,hh,hcz,hsp,hrel⟩:=hblk.cells hmb
   have hcells:=lU h2 (jo hlf)
   have hcsz:(a.eval v).cells.size=sz:=by have:=hcells.length;simp at this;omega
   have hsize:=hrel.length
   have hcl2:c.size=vs.length+suf.length:=by rw [←Array.length_toList,hsp,List.length_append]
   have hnl:(a.eval v).cells.toList.length=sz:=by simpa using hcsz
   have hrun:=kz (P:=P) (w:=w) hsz hcsz hh (off:=off) (by omega) (iq hcells (jo hlf))
   obtain ⟨g1,g2⟩:=hi.kx (cells':=aN cs off (bK x)) hcs hp hh (c':=(c.toList.take off++(a.eval v).cells.toList++c.toList.drop (off+(a.eval v).cells.toList.length)).toArray)
     (suf:=suf) (vs:=vs.take off++(a.eval v).cells.toList++vs.drop (off+(a.eval v).cells.toList.length))
     (by rw [←hcz];simp;omega)
     (by
       show c.toList.take off++(a.eval v).cells.toList++c.toList.drop (off+(a.eval v).cells.toList.length)=_
       rw [hsp,List.take_append_of_le_length (by omega),List.drop_append_of_le_length (by omega)]
       simp [List.append_assoc])
     (ee off hrel hcells) (gg hcl hlf) (gg hcr hrf)
   refine ⟨.skip,undef,_,G,?_,.inr ⟨rfl,rfl⟩,by simp [aq],by simpa [AK.key,ew] using g1,G.le_refl,g2⟩
   simp [execOp,hv,Instr.storeAt,Instr.sureAddr,hrun]
 | alloc key z=>
   obtain ⟨t,rfl,rfl,hz,rfl⟩:=qQ hc
   obtain ⟨rfl,hcs,rfl⟩:=gB h
   simp only [AK.key,Option.bind_some] at hcs
   obtain ⟨zv,hz1,hz2⟩:=fq (P:=P) (w:=w) hz
   obtain ⟨zr,zl⟩:=fC (G:=G) (ρ:=num ns) hz2
   obtain ⟨g1,g2,g3⟩:=hi.oD (c:=zv.cells) t hcs zr zl
   refine bW (s:=Instr.alloc t true (.tuple #[])) (v:=.pointer (some ⟨w.heap.size,0,none⟩)) rfl ?_ ?_ g1 g2 g3
   · simp only [Instr.alloc,Sem.run_bind,hz1,Result.andThen_ok,ir,Sem.run_pure]
   · simp only [aq];exact ⟨_,by simp [Gh.di],rfl⟩
 | box key sz=>
   obtain ⟨t,y,rfl,rfl,hsz,rfl⟩:=xQ hc
   obtain ⟨x,rfl,hcs,hl,hlf,rfl⟩:=i6 h
   simp only [AK.key,Option.bind_some] at hcs
   obtain ⟨x',e,h1⟩:=bY (by simpa using hr)
   cases e
   have hcells:=h1.cells hlf
   obtain ⟨g1,g2,g3⟩:=hi.oD (c:=(a.eval y).cells) t hcs hcells hlf
   refine bW (s:=Instr.box t (a.eval y)) (v:=.pointer (some ⟨w.heap.size,0,none⟩)) rfl ?_ ?_ g1 g2 g3
   · simp only [Instr.box,Sem.run_bind,ir,Result.andThen_ok,Sem.run_pure]
   · simp only [aq];exact ⟨_,by simp [Gh.di],rfl⟩
 | gl z=>
   obtain ⟨t,rfl,rfl,hz⟩:=pr hc
   obtain ⟨rfl,rfl⟩:=gT h
   obtain ⟨zv,hz1,hz2⟩:=fq (P:=P) (w:=w) hz
   obtain ⟨zr,zl⟩:=fC (G:=G) (ρ:=num ns) hz2
   obtain ⟨g1,g2,g3⟩:=hi.mS (c:=zv.cells) t zr zl (xM _ z)
   refine bW (s:=Instr.alloc t true (.tuple #[])) (v:=.pointer (some ⟨w.heap.size,0,none⟩)) rfl ?_ ?_ g1 g2 g3
   · simp only [Instr.alloc,Sem.run_bind,hz1,Result.andThen_ok,ir,Sem.run_pure]
   · simp only [aq];exact ⟨(w.heap.size,zv.cells.size),by simp [Gh.cq],rfl⟩
 | kX sz=>
   obtain ⟨t,y,rfl,rfl,hsz⟩:=tD hc
   obtain ⟨x,rfl,hl,hlf,hrf,rfl⟩:=jr h
   obtain ⟨x',e,h1⟩:=bY (by simpa using hr)
   cases e
   have hcells:=lU h1 (jo hlf)
   obtain ⟨g1,g2,g3⟩:=hi.mS (c:=(a.eval y).cells) t hcells hlf (iw (Nat.le_succ _) hrf)
   refine bW (s:=Instr.box t (a.eval y)) (v:=.pointer (some ⟨w.heap.size,0,none⟩)) rfl ?_ ?_ g1 g2 g3
   · simp only [Instr.box,Sem.run_bind,ir,Result.andThen_ok,Sem.run_pure]
   · simp only [aq];exact ⟨(w.heap.size,(a.eval y).cells.size),by simp [Gh.cq],rfl⟩
 | jI sz by_ ag z=>
   obtain ⟨t,e,l,c,rfl,rfl,hu,hsz,hby,hz,hzl,h0⟩:=qR hc
   obtain ⟨k,k',n,rfl,h1,h2,h3,_,rfl⟩:=ix h
   obtain ⟨x1,x2,e',r1,r2⟩:=dc (by simpa using hr)
   cases e'
   obtain ⟨v,w',G',g1,g2,g3,g4,g5⟩:=qJ (k:=k) (k':=k') (ag:=ag) hu hsz hby hz hzl h0 h1 h2 h3 hi
   refine bW (s:=Instr.makeSlice t (a.eval l) (a.eval c)) rfl ?_ g2 g3 g4 g5
   rw [lS r1,lS r2];exact g1
 | append sz by_=>
   obtain ⟨c,rfl⟩:=pw hc
   obtain ⟨x,y,t,e,t1,e1,z,hcal,hargs,rfl,h0,h1,hu,hu1,hsz,hby,hz,hzl,hs0,hb0⟩:=tw hc
   obtain ⟨s,x',y',ts,rfl,happ,rfl⟩:=gU h
   obtain ⟨x1,x2,e',r1,r2⟩:=dc (by simpa using hr)
   cases e'
   obtain ⟨v,w',G',g1,g2,g3,g4,g5⟩:=pk (type:=type) h0 h1 hu hu1 hsz hby hz hzl hb0 r1 r2 hi happ
   refine bW (s:=Builtin.append_ c.argTypes type #[a.eval x,a.eval y]) ?_ g1 g2 g3 g4 g5
   obtain ⟨callee,cargs,ctypes⟩:=c
   simp only at hcal hargs
   subst hcal;subst hargs
   simp [execOp,resolve,invoke,builtin]
 | cI sz by_ ag=>
   obtain ⟨c,rfl⟩:=nY hc
   obtain ⟨x,y,t,e,t1,e1,z,hcal,hargs,rfl,h0,h1,hu,hu1,hsz,hby,hz,hzl,hs0,hb0⟩:=qI hc
   obtain ⟨s,x',xs,y',sh',rfl,hxs,hhx,happ,rfl⟩:=iA h
   obtain ⟨x1,x2,e',r1,r2⟩:=dc (by simpa using hr)
   cases e'
   obtain ⟨v,w',G',g1,g2,g3,g4,g5⟩:=nW (type:=type) h0 h1 hu hu1 hsz hby hz hzl hb0 r1 r2 hi hxs hhx happ
   refine bW (s:=Builtin.append_ c.argTypes type #[a.eval x,a.eval y]) ?_ g1 g2 g3 g4 g5
   obtain ⟨callee,cargs,ctypes⟩:=c
   simp only at hcal hargs
   subst hcal;subst hargs
   simp [execOp,resolve,invoke,builtin]
 | eg sz by_=>
   obtain ⟨c,rfl⟩:=nZ hc
   obtain ⟨x,y,u,t,e,t1,e1,z,hcal,hargs,rfl,h0,h1,hu,hu1,hsz,hby,hz,hzl,hsz0,hb0⟩:=qN hc
   obtain ⟨s,x',e',xs,p,rfl,hxs,hdp,rfl⟩:=gi h
   obtain ⟨x1,x2,x3,e'',r1,r2,r3⟩:=i5 (by simpa using hr)
   cases e''
   obtain ⟨v,w',G',g1,g2,g3,g4,g5⟩:=nX (type:=type) h0 h1 hu hu1 hsz hby hz hzl hb0 r1 r2 r3 hi hxs hdp
   refine bW (s:=Builtin.append_ c.argTypes type #[a.eval x,a.eval y]) ?_ g1 g2 g3 g4 g5
   obtain ⟨callee,cargs,ctypes⟩:=c
   simp only at hcal hargs
   subst hcal;subst hargs
   simp [execOp,resolve,invoke,builtin]
 | iP sz=>
   obtain ⟨c,rfl⟩:=qS hc
   obtain ⟨x,y,t,e,t1,e1,hcal,hargs,rfl,h0,h1,hu,hu1,hsz⟩:=xO hc
   obtain ⟨x',y',xs,k,sh',rfl,hxs,hcp,rfl⟩:=iz h
   obtain ⟨x1,x2,e',r1,r2⟩:=dc (by simpa using hr)
   cases e'
   obtain ⟨w',g1,g2,g3⟩:=qL (type:=type) h0 hu hsz r1 r2 hi hxs hcp
   refine bW (s:=Builtin.copy_ c.argTypes type #[a.eval x,a.eval y]) (v:=.int .i64 k) ?_ g1 (by simp only [aq];exact en.2 rfl) g2 G.le_refl g3
   obtain ⟨callee,cargs,ctypes⟩:=c
   simp only at hcal hargs
   subst hcal;subst hargs
   simp [execOp,resolve,invoke,builtin]
 | fR sz z=>
   obtain ⟨c,rfl⟩:=pz hc
   obtain ⟨x,t,e,hcal,hargs,rfl,h0,hu,hsz,hz,hzl,hs0⟩:=tC hc
   obtain ⟨x',sh',rfl,hcl,rfl⟩:=lT h
   obtain ⟨x1,e',r1⟩:=bY (by simpa using hr)
   cases e'
   obtain ⟨w',g1,g2,g3⟩:=pn (type:=type) h0 hu hz hzl hs0 r1 hi hcl
   refine bW (s:=Builtin.clear_ c.argTypes type #[a.eval x]) (v:=.tuple #[]) ?_ g1 (by simp only [aq];exact ⟨[],rfl,by simp [al]⟩) g2 G.le_refl g3
   obtain ⟨callee,cargs,ctypes⟩:=c
   simp only at hcal hargs
   subst hcal;subst hargs
   simp [execOp,resolve,invoke,builtin]
end
end Go.Ab
