import Derived.Test.YtcjggpmnbcfedaaDoorAbOps11
/-
  Each operation that calls nothing.
-/
set_option linter.unusedVariables false
set_option linter.unusedSimpArgs false
set_option maxRecDepth 100000
set_option maxHeartbeats 8000000
namespace Go.Ab
section
variable {P:Program} {ns:Names} {G:Gh} {w:World}
def AK.calls:AK→Bool
 | .aA _ | .eK _ | .az .. | .gG _ | .gf | .b_ | .clone ..=>true
 | _=>false
theorem dV {mem:List (Nat×List AV)} (k:Option Nat):dZ mem k none=mem:=by cases k<;>rfl
theorem lg {v:AV} {rv:Value} (h:al (num ns) G v rv) (hl:(bA v).all aG=true):ae (num ns) G (bA v) rv.cells.toList:=by
 cases v with
 | cg l=>exact al.cells (x:=.cg l) h hl
 | own l τ=>exact al.cells (x:=.own l τ) h hl
 | _=>
   simp only [bA] at hl ⊢
   split
   · rename_i p hp
     simp only [hp] at hl
     exact al.cells (by simp only [al];exact iT hp h) hl
   · rename_i hp
     simp only [hp] at hl
     exact h.cells hl
theorem bP {mem:List (Nat×List AV)} {sh:Sh} {aa:au} {s:Sem Value} {s':Sem Next} {x:AV} {v:Value} {w':World} {G':Gh} (hs:s'=(do pure (.value (←s)))) (h1:s.run P w=.ok v w') (h2:al (num ns) G' x v)
   (h3:Inv (num ns) G' w' mem sh aa) (h4:G.le G') (h5:bz G w G' w'):Ff ns P G w mem sh aa s' x:=
 ⟨.value v,v,w',G',by rw [hs];simp only [Sem.run_bind,h1,Result.andThen_ok,Sem.run_pure],.inl rfl,h2,h3,h4,h5⟩
theorem lh {A:jL} {o:Oper} {k:AK} {args:List Operand} {orc:dC} (hc:a9 P ns A o.dst o.op=some (k,args)) (hk:k.calls=false) {a:Act} {vals:List AV} {out:Out}
   {mem:List (Nat×List AV)} {sh:Sh} {aa:au} (hr:ae (num ns) G vals (args.map a.eval)) (hi:Inv (num ns) G w mem sh aa)
   (h:exec orc k vals (k.key.bind (look mem)) sh aa=some out) :
   Ff ns P G w (dZ mem k.key out.cells) out.sh out.aa (execOp a.eval o) out.val:=by
 obtain ⟨dst,op,type,pos,after,guard⟩:=o
 cases k with
 | v vo=>
   simp only [exec,Option.map_eq_some_iff] at h
   obtain ⟨x,h1,rfl⟩:=h
   obtain ⟨v,w',G',g1,g2,g3,g4,g5⟩:=p7 hc hr hi h1
   exact ⟨.value v,v,w',G',g1,.inl rfl,g2,by simpa [dV] using g3,g4,g5⟩
 | aA g=>simp [AK.calls] at hk
 | eK g=>simp [AK.calls] at hk
 | az g own=>simp [AK.calls] at hk
 | gG g=>simp [AK.calls] at hk
 | gf=>simp [AK.calls] at hk
 | b_=>simp [AK.calls] at hk
 | clone sz by_=>simp [AK.calls] at hk
 | jN=>
   obtain ⟨t,rfl,rfl⟩:=qk hc
   obtain ⟨rfl,rfl⟩:=gX h
   obtain ⟨g1,g2,g3⟩:=hi.allocMap
   refine bP (s:=Instr.makeMap t none) (v:=.map (some w.heap.size)) rfl ?_ ?_ g1 g2 g3
   · rfl
   · simp only [al];exact ⟨(w.heap.size,0),by simp [Gh.cf],rfl⟩
 | gF c ok z=>
   obtain ⟨t,x,i,kt,et,rfl,rfl,hu,hk1,hz⟩:=ql hc
   obtain ⟨s,k,kvs,r,rfl,hs,hf,rfl⟩:=fQ h
   obtain ⟨x1,x2,e,h1,h2⟩:=cP (by simpa using hr)
   cases e
   simp only [al] at h1 h2
   obtain ⟨b,hp,hv⟩:=h1
   obtain ⟨b',hp',hblk,_⟩:=hi.cL _ _ hs
   rw [hp] at hp';cases hp'
   obtain ⟨_,o,hh,hold⟩:=hblk
   rcases hold with ⟨_,_,_,_,_,_,_,hbad⟩ | ⟨es,clock,kvs',rfl,e,hm⟩
   · exact absurd (l6 hbad) (by simp [cV])
   · cases e
     obtain ⟨zv,hz1,hz2⟩:=sD (P:=P) (w:=w) (K:=G.K) hz
     obtain ⟨d,hd⟩:=jX hk1
     have hget:(getObj b.1).run P w=.ok (.map es clock) w:=by simp [getObj,Sem.run,hh]
     have key:∃u,(Instr.lookup t (a.eval x) (a.eval i) ok).run P w=.ok u w∧al (num ns) G (e_ ok z r) u:=by
       rcases kV hk1 hd h2 0 hm hf with ⟨rfl,hfn⟩ | ⟨p,v,j,rfl,hfn,hpv⟩
       · refine ⟨if ok then .tuple #[zv,.bool false] else zv,?_,?_⟩
         · rw [hv]
           simp only [Instr.lookup,Sem.run_bind,run_underlying hu,Result.andThen_ok,hget,Sem.run_pure,ez hk1,gk hd hfn,hz1]
         · unfold e_
           cases ok
           · simpa [al] using hz2
           · simp only [if_true,al]
             exact ⟨[zv,.bool false],by simp,by simp only [ae,al];exact ⟨_,_,rfl,by simpa using hz2,_,_,rfl,dM.2 rfl,rfl⟩⟩
       · refine ⟨if ok then .tuple #[v,.bool true] else v,?_,?_⟩
         · rw [hv]
           simp only [Instr.lookup,Sem.run_bind,run_underlying hu,Result.andThen_ok,hget,Sem.run_pure,ez hk1,gk hd hfn]
         · unfold e_
           cases ok
           · simpa [al] using hpv
           · simp only [if_true,al]
             exact ⟨[v,.bool true],by simp,by simp only [ae,al];exact ⟨_,_,rfl,by simpa using hpv,_,_,rfl,dM.2 rfl,rfl⟩⟩
     obtain ⟨u,g1,g2⟩:=key
     exact bP (s:=Instr.lookup t (a.eval x) (a.eval i) ok) (v:=u) (w':=w) rfl g1 g2 (by simpa [dV] using hi) G.le_refl (bz.refl G w)
 | lX c=>
   obtain ⟨t,m,i,x,kt,et,hop,rfl,hu,hk1⟩:=sI hc
   obtain ⟨s,k,v,kvs,p,kvs',rfl,hs,hfz,hput,rfl⟩:=iY h
   obtain ⟨x1,x2,x3,e,h1,h2,h3⟩:=iF (by simpa using hr)
   cases e
   have h3:=iT hfz h3
   simp only [al] at h1 h2
   obtain ⟨b,hp,hv⟩:=h1
   obtain ⟨b',hp',hblk,_⟩:=hi.cL _ _ hs
   rw [hp] at hp';cases hp'
   obtain ⟨_,o,hh,hold⟩:=hblk
   rcases hold with ⟨_,_,_,_,_,_,_,hbad⟩ | ⟨es,clock,kvs0,rfl,e,hm⟩
   · exact absurd (l6 hbad) (by simp [cV])
   · cases e
     obtain ⟨d,hd⟩:=jX hk1
     obtain ⟨es',clock',hrun,hm'⟩:=nf (P:=P) (w:=w) hu hk1 hd hh h2 h3 hm hput
     obtain ⟨g1,g2⟩:=hi.zV (es:=es') (clock:=clock') hs hp hm'
     have:(execOp a.eval ⟨dst,op,type,pos,after,guard⟩).run P w=.ok .skip (w.putObj b.1 (.map es' clock')):=by
       rcases hop with rfl | rfl<;>simp [execOp,hv,hrun]
     exact ⟨.skip,undef,_,G,this,.inr ⟨rfl,rfl⟩,by simp [al],by simpa [AK.key,dZ] using g1,G.le_refl,g2⟩
 | cD key off sz ag=>
   obtain ⟨t,tx,rfl,rfl,hsz,hag⟩:=qf hc
   obtain ⟨cs,x,rfl,hcs,hx,rfl⟩:=eP h
   simp only [AK.key,Option.bind_some] at hcs
   obtain ⟨x',e,h1⟩:=bI (by simpa using hr)
   cases e
   simp only [al] at h1
   obtain ⟨b,hp,hv⟩:=h1
   obtain ⟨b',hp',hblk,_⟩:=hi.bZ _ _ hcs
   rw [hp] at hp';cases hp'
   obtain ⟨_,c,ty,hh,hrel⟩:=hblk
   obtain ⟨u,g1,g2⟩:=ff (w:=w) hsz hag hx hrel (gC hh)
   refine bP (s:=Instr.loadAt t (a.eval (.tmp tx))) (v:=u) (w':=w) rfl ?_ g2 (by simpa [dV] using hi) G.le_refl (bz.refl G w)
   rw [hv];simp [Instr.loadAt,Instr.sureAddr,g1]
 | aJ sz ag=>
   obtain ⟨t,tx,rfl,rfl,hsz,hag⟩:=qg hc
   obtain ⟨p,x,rfl,rfl,hor⟩:=jt h
   obtain ⟨x',e,h1⟩:=bI (by simpa using hr)
   cases e
   rcases hor with ⟨cs,rfl,hx⟩ | ⟨s,off,cs,rfl,hcs,hx⟩
   · simp only [al] at h1
     obtain ⟨b,o,vs,hv,ha,hrl⟩:=h1
     obtain ⟨u,g1,g2⟩:=jh (ns:=ns) (w:=w) hsz hag hx hrl (fun j v hj=>hi.known _ _ _ (ha j v hj))
     refine bP (s:=Instr.loadAt t (a.eval (.tmp tx))) (v:=u) (w':=w) rfl ?_ g2 (by simpa [dV] using hi) G.le_refl (bz.refl G w)
     rw [hv];simp [Instr.loadAt,Instr.sureAddr,g1]
   · obtain ⟨hmb,hx⟩:=hx
     simp only [al] at h1
     obtain ⟨b,hp,hv⟩:=h1
     obtain ⟨b',hp',hblk,_⟩:=hi.cL _ _ hcs
     rw [hp] at hp';cases hp'
     obtain ⟨_,c,ty,vs,suf,hh,_,hsp,hrel⟩:=hblk.cells hmb
     obtain ⟨u,g1,g2⟩:=ff (w:=w) hsz hag hx hrel (jT hh hsp)
     refine bP (s:=Instr.loadAt t (a.eval (.tmp tx))) (v:=u) (w':=w) rfl ?_ g2 (by simpa [dV] using hi) G.le_refl (bz.refl G w)
     rw [hv];simp [Instr.loadAt,Instr.sureAddr,g1]
 | ee key off sz=>
   obtain ⟨t,tx,v,rfl,rfl,hsz⟩:=oF hc
   obtain ⟨cs,x,rfl,hcs,hl,hlf,hle,rfl⟩:=eX h
   simp only [AK.key,Option.bind_some] at hcs
   obtain ⟨x1,x2,e,h1,h2⟩:=cP (by simpa using hr)
   cases e
   simp only [al] at h1
   obtain ⟨b,hp,hv⟩:=h1
   obtain ⟨b',hp',hblk,hcl⟩:=hi.bZ _ _ hcs
   rw [hp] at hp';cases hp'
   obtain ⟨_,c,ty,hh,hrel⟩:=hblk
   have hcells:=h2.cells hlf
   have hcsz:(a.eval v).cells.size=sz:=by have:=hcells.length;simp at this;omega
   have hsize:=hrel.length
   simp at hsize
   have hrun:=jZ (P:=P) (w:=w) hsz hcsz hh (off:=off) (by omega) (gR hcells hlf)
   obtain ⟨g1,g2⟩:=hi.wP (cells':=aN cs off (aL x)) hcs hp (c':=(c.toList.take off++(a.eval v).cells.toList++c.toList.drop (off+(a.eval v).cells.toList.length)).toArray)
     (by simpa using dN off hrel hcells) (fh hcl hlf)
   refine ⟨.skip,undef,_,G,?_,.inr ⟨rfl,rfl⟩,by simp [al],g1,G.le_refl,g2⟩
   simp [execOp,hv,Instr.storeAt,Instr.sureAddr,hrun]
 | dE sz=>
   obtain ⟨t,tx,v,rfl,rfl,hsz⟩:=oG hc
   obtain ⟨s,off,x,cs,rfl,hcs,hmb,hl,hle,hlf,hrf,rfl⟩:=gp h
   obtain ⟨x1,x2,e,h1,h2⟩:=cP (by simpa using hr)
   cases e
   simp only [al] at h1
   obtain ⟨b,hp,hv⟩:=h1
   obtain ⟨b',hp',hblk,hcl,hcr⟩:=hi.cL _ _ hcs
   rw [hp] at hp';cases hp'
   obtain ⟨_,c,ty,vs,suf,hh,hcz,hsp,hrel⟩:=hblk.cells hmb
   have hcells:=lg h2 (iV hlf)
   have hcsz:(a.eval v).cells.size=sz:=by have:=hcells.length;simp at this;omega
   have hsize:=hrel.length
   have hcl2:c.size=vs.length+suf.length:=by rw [←Array.length_toList,hsp,List.length_append]
   have hnl:(a.eval v).cells.toList.length=sz:=by simpa using hcsz
   have hrun:=jZ (P:=P) (w:=w) hsz hcsz hh (off:=off) (by omega) (gR hcells (iV hlf))
   obtain ⟨g1,g2⟩:=hi.jY (cells':=aN cs off (bA x)) hcs hp hh (c':=(c.toList.take off++(a.eval v).cells.toList++c.toList.drop (off+(a.eval v).cells.toList.length)).toArray)
     (suf:=suf) (vs:=vs.take off++(a.eval v).cells.toList++vs.drop (off+(a.eval v).cells.toList.length))
     (by rw [←hcz];simp;omega)
     (by
       show c.toList.take off++(a.eval v).cells.toList++c.toList.drop (off+(a.eval v).cells.toList.length)=_
       rw [hsp,List.take_append_of_le_length (by omega),List.drop_append_of_le_length (by omega)]
       simp [List.append_assoc])
     (dN off hrel hcells) (fh hcl hlf) (fh hcr hrf)
   refine ⟨.skip,undef,_,G,?_,.inr ⟨rfl,rfl⟩,by simp [al],by simpa [AK.key,dZ] using g1,G.le_refl,g2⟩
   simp [execOp,hv,Instr.storeAt,Instr.sureAddr,hrun]
 | alloc key z=>
   obtain ⟨t,rfl,rfl,hz,rfl⟩:=qh hc
   obtain ⟨rfl,hcs,rfl⟩:=fM h
   simp only [AK.key,Option.bind_some] at hcs
   obtain ⟨zv,hz1,hz2⟩:=eO (P:=P) (w:=w) hz
   obtain ⟨zr,zl⟩:=eS (G:=G) (ρ:=num ns) hz2
   obtain ⟨g1,g2,g3⟩:=hi.nK (c:=zv.cells) t hcs zr zl
   refine bP (s:=Instr.alloc t true (.tuple #[])) (v:=.pointer (some ⟨w.heap.size,0,none⟩)) rfl ?_ ?_ g1 g2 g3
   · simp only [Instr.alloc,Sem.run_bind,hz1,Result.andThen_ok,gS,Sem.run_pure]
   · simp only [al];exact ⟨_,by simp [Gh.cT],rfl⟩
 | box key sz=>
   obtain ⟨t,y,rfl,rfl,hsz,rfl⟩:=wW hc
   obtain ⟨x,rfl,hcs,hl,hlf,rfl⟩:=iG h
   simp only [AK.key,Option.bind_some] at hcs
   obtain ⟨x',e,h1⟩:=bI (by simpa using hr)
   cases e
   have hcells:=h1.cells hlf
   obtain ⟨g1,g2,g3⟩:=hi.nK (c:=(a.eval y).cells) t hcs hcells hlf
   refine bP (s:=Instr.box t (a.eval y)) (v:=.pointer (some ⟨w.heap.size,0,none⟩)) rfl ?_ ?_ g1 g2 g3
   · simp only [Instr.box,Sem.run_bind,gS,Result.andThen_ok,Sem.run_pure]
   · simp only [al];exact ⟨_,by simp [Gh.cT],rfl⟩
 | gz z=>
   obtain ⟨t,rfl,rfl,hz⟩:=oH hc
   obtain ⟨rfl,rfl⟩:=gq h
   obtain ⟨zv,hz1,hz2⟩:=eO (P:=P) (w:=w) hz
   obtain ⟨zr,zl⟩:=eS (G:=G) (ρ:=num ns) hz2
   obtain ⟨g1,g2,g3⟩:=hi.me (c:=zv.cells) t zr zl (wT _ z)
   refine bP (s:=Instr.alloc t true (.tuple #[])) (v:=.pointer (some ⟨w.heap.size,0,none⟩)) rfl ?_ ?_ g1 g2 g3
   · simp only [Instr.alloc,Sem.run_bind,hz1,Result.andThen_ok,gS,Sem.run_pure]
   · simp only [al];exact ⟨(w.heap.size,zv.cells.size),by simp [Gh.cf],rfl⟩
 | kr sz=>
   obtain ⟨t,y,rfl,rfl,hsz⟩:=sH hc
   obtain ⟨x,rfl,hl,hlf,hrf,rfl⟩:=iX h
   obtain ⟨x',e,h1⟩:=bI (by simpa using hr)
   cases e
   have hcells:=lg h1 (iV hlf)
   obtain ⟨g1,g2,g3⟩:=hi.me (c:=(a.eval y).cells) t hcells hlf (gV (Nat.le_succ _) hrf)
   refine bP (s:=Instr.box t (a.eval y)) (v:=.pointer (some ⟨w.heap.size,0,none⟩)) rfl ?_ ?_ g1 g2 g3
   · simp only [Instr.box,Sem.run_bind,gS,Result.andThen_ok,Sem.run_pure]
   · simp only [al];exact ⟨(w.heap.size,(a.eval y).cells.size),by simp [Gh.cf],rfl⟩
 | iw sz by_ ag z=>
   obtain ⟨t,e,l,c,rfl,rfl,hu,hsz,hby,hz,hzl,h0⟩:=qi hc
   obtain ⟨k,k',n,rfl,h1,h2,h3,_,rfl⟩:=gW h
   obtain ⟨x1,x2,e',r1,r2⟩:=cP (by simpa using hr)
   cases e'
   obtain ⟨v,w',G',g1,g2,g3,g4,g5⟩:=p9 (k:=k) (k':=k') (ag:=ag) hu hsz hby hz hzl h0 h1 h2 h3 hi
   refine bP (s:=Instr.makeSlice t (a.eval l) (a.eval c)) rfl ?_ g2 g3 g4 g5
   rw [k9 r1,k9 r2];exact g1
 | append sz by_=>
   obtain ⟨c,rfl⟩:=oI hc
   obtain ⟨x,y,t,e,t1,e1,z,hcal,hargs,rfl,h0,h1,hu,hu1,hsz,hby,hz,hzl,hs0,hb0⟩:=sE hc
   obtain ⟨s,x',y',ts,rfl,happ,rfl⟩:=gr h
   obtain ⟨x1,x2,e',r1,r2⟩:=cP (by simpa using hr)
   cases e'
   obtain ⟨v,w',G',g1,g2,g3,g4,g5⟩:=oD (type:=type) h0 h1 hu hu1 hsz hby hz hzl hb0 r1 r2 hi happ
   refine bP (s:=Builtin.append_ c.argTypes type #[a.eval x,a.eval y]) ?_ g1 g2 g3 g4 g5
   obtain ⟨callee,cargs,ctypes⟩:=c
   simp only at hcal hargs
   subst hcal;subst hargs
   simp [execOp,resolve,invoke,builtin]
 | di sz by_ ag=>
   obtain ⟨c,rfl⟩:=ni hc
   obtain ⟨x,y,t,e,t1,e1,z,hcal,hargs,rfl,h0,h1,hu,hu1,hsz,hby,hz,hzl,hs0,hb0⟩:=p8 hc
   obtain ⟨s,x',xs,y',sh',rfl,hxs,hhx,happ,rfl⟩:=gZ h
   obtain ⟨x1,x2,e',r1,r2⟩:=cP (by simpa using hr)
   cases e'
   obtain ⟨v,w',G',g1,g2,g3,g4,g5⟩:=ng (type:=type) h0 h1 hu hu1 hsz hby hz hzl hb0 r1 r2 hi hxs hhx happ
   refine bP (s:=Builtin.append_ c.argTypes type #[a.eval x,a.eval y]) ?_ g1 g2 g3 g4 g5
   obtain ⟨callee,cargs,ctypes⟩:=c
   simp only at hcal hargs
   subst hcal;subst hargs
   simp [execOp,resolve,invoke,builtin]
 | d9 sz by_=>
   obtain ⟨c,rfl⟩:=nj hc
   obtain ⟨x,y,u,t,e,t1,e1,z,hcal,hargs,rfl,h0,h1,hu,hu1,hsz,hby,hz,hzl,hsz0,hb0⟩:=qe hc
   obtain ⟨s,x',e',xs,p,rfl,hxs,hdp,rfl⟩:=fl h
   obtain ⟨x1,x2,x3,e'',r1,r2,r3⟩:=iF (by simpa using hr)
   cases e''
   obtain ⟨v,w',G',g1,g2,g3,g4,g5⟩:=nh (type:=type) h0 h1 hu hu1 hsz hby hz hzl hb0 r1 r2 r3 hi hxs hdp
   refine bP (s:=Builtin.append_ c.argTypes type #[a.eval x,a.eval y]) ?_ g1 g2 g3 g4 g5
   obtain ⟨callee,cargs,ctypes⟩:=c
   simp only at hcal hargs
   subst hcal;subst hargs
   simp [execOp,resolve,invoke,builtin]
 | ij sz=>
   obtain ⟨c,rfl⟩:=qj hc
   obtain ⟨x,y,t,e,t1,e1,hcal,hargs,rfl,h0,h1,hu,hu1,hsz⟩:=wV hc
   obtain ⟨x',y',xs,k,sh',rfl,hxs,hcp,rfl⟩:=gY h
   obtain ⟨x1,x2,e',r1,r2⟩:=cP (by simpa using hr)
   cases e'
   obtain ⟨w',g1,g2,g3⟩:=qc (type:=type) h0 hu hsz r1 r2 hi hxs hcp
   refine bP (s:=Builtin.copy_ c.argTypes type #[a.eval x,a.eval y]) (v:=.int .i64 k) ?_ g1 (by simp only [al];exact dU.2 rfl) g2 G.le_refl g3
   obtain ⟨callee,cargs,ctypes⟩:=c
   simp only at hcal hargs
   subst hcal;subst hargs
   simp [execOp,resolve,invoke,builtin]
 | ft sz z=>
   obtain ⟨c,rfl⟩:=oJ hc
   obtain ⟨x,t,e,hcal,hargs,rfl,h0,hu,hsz,hz,hzl,hs0⟩:=sG hc
   obtain ⟨x',sh',rfl,hcl,rfl⟩:=lf h
   obtain ⟨x1,e',r1⟩:=bI (by simpa using hr)
   cases e'
   obtain ⟨w',g1,g2,g3⟩:=oE (type:=type) h0 hu hz hzl hs0 r1 hi hcl
   refine bP (s:=Builtin.clear_ c.argTypes type #[a.eval x]) (v:=.tuple #[]) ?_ g1 (by simp only [al];exact ⟨[],rfl,by simp [ae]⟩) g2 G.le_refl g3
   obtain ⟨callee,cargs,ctypes⟩:=c
   simp only at hcal hargs
   subst hcal;subst hargs
   simp [execOp,resolve,invoke,builtin]
end
end Go.Ab
