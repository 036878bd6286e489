import Derived.Test.YtcjggpmnbcfedaaDoorAbOps11
/-
  Each operation that calls nothing.
-/
set_option linter.unusedVariables false
set_option linter.unusedSimpArgs false
set_option linter.unnecessarySimpa false
set_option maxRecDepth 100000
set_option maxHeartbeats 8000000
namespace Go.Ab
section
variable {P:Program} {ns:Names} {G:Gh} {w:World}
def AK.calls:AK→Bool
 | .aQ _ | .eo _ | .gQ .. | .gY _ | .fq | .bP | .clone .. | .gp ..=>true
 | _=>false
theorem cQ {mem:List (Nat×List AV)} (k:Option Nat):cM mem k none=mem:=by cases k<;>rfl
theorem ke {v:AV} {rv:Value} (h:ah (num ns) G v rv) (hl:(bA v).all aA=true):ae (num ns) G (bA v) rv.cells.toList:=by
 cases v with
 | cw l=>exact ah.cells (x:=.cw l) h hl
 | own l τ=>exact ah.cells (x:=.own l τ) h hl
 | _=>
   simp only [bA] at hl ⊢
   split
   · rename_i p hp
     simp only [hp] at hl
     exact ah.cells (by simp only [ah];exact iz hp h) hl
   · rename_i hp
     simp only [hp] at hl
     exact h.cells hl
theorem a7 {mem:List (Nat×List AV)} {sh:Sh} {aa:al} {s:Sem Value} {s':Sem Next} {x:AV} {v:Value} {w':World} {G':Gh} (hs:s'=(do pure (.value (←s)))) (h1:s.run P w=.ok v w') (h2:ah (num ns) G' x v)
   (h3:Inv (num ns) G' w' mem sh aa) (h4:G.le G') (h5:aN G w G' w'):BA ns P G w mem sh aa s' x:=
 ⟨.value v,v,w',G',by rw [hs];simp only [Sem.run_bind,h1,Result.andThen_ok,Sem.run_pure],.inl rfl,h2,h3,h4,h5⟩
theorem kf {A:hO} {o:Oper} {k:AK} {args:List Operand} {orc:cZ} (hc:aG P ns A o.dst o.op=some (k,args)) (hk:k.calls=false) {a:Act} {vals:List AV} {out:Out}
   {mem:List (Nat×List AV)} {sh:Sh} {aa:al} (hr:ae (num ns) G vals (args.map a.eval)) (hi:Inv (num ns) G w mem sh aa)
   (h:exec orc k vals (k.key.bind (look mem)) sh aa=some out) :
   BA ns P G w (cM mem k.key out.cells) out.sh out.aa (execOp a.eval o) out.val:=by
 obtain ⟨dst,op,type,pos,after,guard⟩:=o
 cases k with
 | v vo=>
   simp only [exec,Option.map_eq_some_iff] at h
   obtain ⟨x,h1,rfl⟩:=h
   obtain ⟨v,w',G',g1,g2,g3,g4,g5⟩:=o6 hc hr hi h1
   exact ⟨.value v,v,w',G',g1,.inl rfl,g2,by simpa [cQ] using g3,g4,g5⟩
 | aQ g=>simp [AK.calls] at hk
 | eo g=>simp [AK.calls] at hk
 | gQ g own=>simp [AK.calls] at hk
 | gY g=>simp [AK.calls] at hk
 | fq=>simp [AK.calls] at hk
 | bP=>simp [AK.calls] at hk
 | clone sz by_=>simp [AK.calls] at hk
 | gp sz by_ ag=>simp [AK.calls] at hk
 | jc=>
   obtain ⟨t,rfl,rfl⟩:=po hc
   obtain ⟨rfl,rfl⟩:=gA h
   obtain ⟨g1,g2,g3⟩:=hi.allocMap
   refine a7 (s:=Instr.makeMap t none) (v:=.map (some w.heap.size)) rfl ?_ ?_ g1 g2 g3
   · rfl
   · simp only [ah];exact ⟨(w.heap.size,0),by simp [Gh.br],rfl⟩
 | gf c ok z=>
   obtain ⟨t,x,i,kt,et,rfl,rfl,hu,hk1,hz⟩:=pq hc
   obtain ⟨s,k,kvs,r,rfl,hs,hf,rfl⟩:=e9 h
   obtain ⟨x1,x2,e,h1,h2⟩:=bG (by simpa using hr)
   cases e
   simp only [ah] at h1 h2
   obtain ⟨b,hp,hv⟩:=h1
   obtain ⟨b',hp',hblk,_⟩:=hi.bD _ _ hs
   rw [hp] at hp';cases hp'
   obtain ⟨_,o,hh,hold⟩:=hblk
   rcases hold with ⟨_,_,_,_,_,_,_,hbad⟩ | ⟨es,clock,kvs',rfl,e,hm⟩
   · exact absurd (lh hbad) (by simp [cJ])
   · cases e
     obtain ⟨zv,hz1,hz2⟩:=q_ (P:=P) (w:=w) (K:=G.K) hz
     obtain ⟨d,hd⟩:=jm hk1
     have hget:(getObj b.1).run P w=.ok (.map es clock) w:=by simp [getObj,Sem.run,hh]
     have key:∃u,(Instr.lookup t (a.eval x) (a.eval i) ok).run P w=.ok u w∧ah (num ns) G (fu ok z r) u:=by
       rcases j8 hk1 hd h2 0 hm hf with ⟨rfl,hfn⟩ | ⟨p,v,j,rfl,hfn,hpv⟩
       · refine ⟨if ok then .tuple #[zv,.bool false] else zv,?_,?_⟩
         · rw [hv]
           simp only [Instr.lookup,Sem.run_bind,run_underlying hu,Result.andThen_ok,hget,Sem.run_pure,dQ hk1,fF hd hfn,hz1]
         · unfold fu
           cases ok
           · simpa [ah] using hz2
           · simp only [if_true,ah]
             exact ⟨[zv,.bool false],by simp,by simp only [ae,ah];exact ⟨_,_,rfl,by simpa using hz2,_,_,rfl,dj.2 rfl,rfl⟩⟩
       · refine ⟨if ok then .tuple #[v,.bool true] else v,?_,?_⟩
         · rw [hv]
           simp only [Instr.lookup,Sem.run_bind,run_underlying hu,Result.andThen_ok,hget,Sem.run_pure,dQ hk1,fF hd hfn]
         · unfold fu
           cases ok
           · simpa [ah] using hpv
           · simp only [if_true,ah]
             exact ⟨[v,.bool true],by simp,by simp only [ae,ah];exact ⟨_,_,rfl,by simpa using hpv,_,_,rfl,dj.2 rfl,rfl⟩⟩
     obtain ⟨u,g1,g2⟩:=key
     exact a7 (s:=Instr.lookup t (a.eval x) (a.eval i) ok) (v:=u) (w':=w) rfl g1 g2 (by simpa [cQ] using hi) G.le_refl (aN.refl G w)
 | kW c=>
   obtain ⟨t,m,i,x,kt,et,hop,rfl,hu,hk1⟩:=ri hc
   obtain ⟨s,k,v,kvs,p,kvs',rfl,hs,hfz,hput,rfl⟩:=iD h
   obtain ⟨x1,x2,x3,e,h1,h2,h3⟩:=ig (by simpa using hr)
   cases e
   have h3:=iz hfz h3
   simp only [ah] at h1 h2
   obtain ⟨b,hp,hv⟩:=h1
   obtain ⟨b',hp',hblk,_⟩:=hi.bD _ _ hs
   rw [hp] at hp';cases hp'
   obtain ⟨_,o,hh,hold⟩:=hblk
   rcases hold with ⟨_,_,_,_,_,_,_,hbad⟩ | ⟨es,clock,kvs0,rfl,e,hm⟩
   · exact absurd (lh hbad) (by simp [cJ])
   · cases e
     obtain ⟨d,hd⟩:=jm hk1
     obtain ⟨es',clock',hrun,hm'⟩:=mu (P:=P) (w:=w) hu hk1 hd hh h2 h3 hm hput
     obtain ⟨g1,g2⟩:=hi.w5 (es:=es') (clock:=clock') hs hp hm'
     have:(execOp a.eval ⟨dst,op,type,pos,after,guard⟩).run P w=.ok .skip (w.putObj b.1 (.map es' clock')):=by
       rcases hop with rfl | rfl<;>simp [execOp,hv,hrun]
     exact ⟨.skip,undef,_,G,this,.inr ⟨rfl,rfl⟩,by simp [ah],by simpa [AK.key,cM] using g1,G.le_refl,g2⟩
 | dv key off sz ag=>
   obtain ⟨t,tx,rfl,rfl,hsz,hag⟩:=pd hc
   obtain ⟨cs,x,rfl,hcs,hx,rfl⟩:=d8 h
   simp only [AK.key,Option.bind_some] at hcs
   obtain ⟨x',e,h1⟩:=a9 (by simpa using hr)
   cases e
   simp only [ah] at h1
   obtain ⟨b,hp,hv⟩:=h1
   obtain ⟨b',hp',hblk,_⟩:=hi.bp _ _ hcs
   rw [hp] at hp';cases hp'
   obtain ⟨_,c,ty,hh,hrel⟩:=hblk
   obtain ⟨u,g1,g2⟩:=eF (w:=w) hsz hag hx hrel (fX hh)
   refine a7 (s:=Instr.loadAt t (a.eval (.tmp tx))) (v:=u) (w':=w) rfl ?_ g2 (by simpa [cQ] using hi) G.le_refl (aN.refl G w)
   rw [hv];simp [Instr.loadAt,Instr.sureAddr,g1]
 | ck sz ag=>
   obtain ⟨t,tx,rfl,rfl,hsz,hag⟩:=pg hc
   obtain ⟨p,x,rfl,rfl,hor⟩:=gw h
   obtain ⟨x',e,h1⟩:=a9 (by simpa using hr)
   cases e
   rcases hor with ⟨cs,rfl,hx⟩ | ⟨s,off,cs,rfl,hcs,hx⟩
   · simp only [ah] at h1
     obtain ⟨b,o,vs,hv,ha,hrl⟩:=h1
     obtain ⟨u,g1,g2⟩:=iN (ns:=ns) (w:=w) hsz hag hx hrl (fun j v hj=>hi.known _ _ _ (ha j v hj))
     refine a7 (s:=Instr.loadAt t (a.eval (.tmp tx))) (v:=u) (w':=w) rfl ?_ g2 (by simpa [cQ] using hi) G.le_refl (aN.refl G w)
     rw [hv];simp [Instr.loadAt,Instr.sureAddr,g1]
   · obtain ⟨hmb,hx⟩:=hx
     simp only [ah] at h1
     obtain ⟨b,hp,hv⟩:=h1
     obtain ⟨b',hp',hblk,_⟩:=hi.bD _ _ hcs
     rw [hp] at hp';cases hp'
     obtain ⟨_,c,ty,vs,suf,hh,_,hsp,hrel⟩:=hblk.cells hmb
     obtain ⟨u,g1,g2⟩:=eF (w:=w) hsz hag hx hrel (ji hh hsp)
     refine a7 (s:=Instr.loadAt t (a.eval (.tmp tx))) (v:=u) (w':=w) rfl ?_ g2 (by simpa [cQ] using hi) G.le_refl (aN.refl G w)
     rw [hv];simp [Instr.loadAt,Instr.sureAddr,g1]
 | dL key off sz=>
   obtain ⟨t,tx,v,rfl,rfl,hsz⟩:=nI hc
   obtain ⟨cs,x,rfl,hcs,hl,hlf,hle,rfl⟩:=eh h
   simp only [AK.key,Option.bind_some] at hcs
   obtain ⟨x1,x2,e,h1,h2⟩:=bG (by simpa using hr)
   cases e
   simp only [ah] at h1
   obtain ⟨b,hp,hv⟩:=h1
   obtain ⟨b',hp',hblk,hcl⟩:=hi.bp _ _ hcs
   rw [hp] at hp';cases hp'
   obtain ⟨_,c,ty,hh,hrel⟩:=hblk
   have hcells:=h2.cells hlf
   have hcsz:(a.eval v).cells.size=sz:=by have:=hcells.length;simp at this;omega
   have hsize:=hrel.length
   simp at hsize
   have hrun:=gr (P:=P) (w:=w) hsz hcsz hh (off:=off) (by omega) (eZ hcells hlf)
   obtain ⟨g1,g2⟩:=hi.ug (cells':=aD cs off (au x)) hcs hp (c':=(c.toList.take off++(a.eval v).cells.toList++c.toList.drop (off+(a.eval v).cells.toList.length)).toArray)
     (by simpa using cG off hrel hcells) (dp hcl hlf)
   refine ⟨.skip,undef,_,G,?_,.inr ⟨rfl,rfl⟩,by simp [ah],g1,G.le_refl,g2⟩
   simp [execOp,hv,Instr.storeAt,Instr.sureAddr,hrun]
 | d4 sz=>
   obtain ⟨t,tx,v,rfl,rfl,hsz⟩:=nJ hc
   obtain ⟨s,off,x,cs,rfl,hcs,hmb,hl,hle,hlf,hrf,rfl⟩:=ei h
   obtain ⟨x1,x2,e,h1,h2⟩:=bG (by simpa using hr)
   cases e
   simp only [ah] at h1
   obtain ⟨b,hp,hv⟩:=h1
   obtain ⟨b',hp',hblk,hcl,hcr⟩:=hi.bD _ _ hcs
   rw [hp] at hp';cases hp'
   obtain ⟨_,c,ty,vs,suf,hh,hcz,hsp,hrel⟩:=hblk.cells hmb
   have hcells:=ke h2 (dB hlf)
   have hcsz:(a.eval v).cells.size=sz:=by have:=hcells.length;simp at this;omega
   have hsize:=hrel.length
   have hcl2:c.size=vs.length+suf.length:=by rw [←Array.length_toList,hsp,List.length_append]
   have hnl:(a.eval v).cells.toList.length=sz:=by simpa using hcsz
   have hrun:=gr (P:=P) (w:=w) hsz hcsz hh (off:=off) (by omega) (eZ hcells (dB hlf))
   obtain ⟨g1,g2⟩:=hi.ij (cells':=aD cs off (bA x)) hcs hp hh (c':=(c.toList.take off++(a.eval v).cells.toList++c.toList.drop (off+(a.eval v).cells.toList.length)).toArray)
     (suf:=suf) (vs:=vs.take off++(a.eval v).cells.toList++vs.drop (off+(a.eval v).cells.toList.length))
     (by rw [←hcz];simp;omega)
     (by
       show c.toList.take off++(a.eval v).cells.toList++c.toList.drop (off+(a.eval v).cells.toList.length)=_
       rw [hsp,List.take_append_of_le_length (by omega),List.drop_append_of_le_length (by omega)]
       simp [List.append_assoc])
     (cG off hrel hcells) (dp hcl hlf) (dp hcr hrf)
   refine ⟨.skip,undef,_,G,?_,.inr ⟨rfl,rfl⟩,by simp [ah],by simpa [AK.key,cM] using g1,G.le_refl,g2⟩
   simp [execOp,hv,Instr.storeAt,Instr.sureAddr,hrun]
 | gn sz=>
   obtain ⟨t,tx,v,rfl,rfl,hsz⟩:=nK hc
   obtain ⟨s,off,x,cs,rfl,hcs,hmb,hl,hle,hlf,hrf,rfl⟩:=fH h
   obtain ⟨x1,x2,e,h1,h2⟩:=bG (by simpa using hr)
   cases e
   simp only [ah] at h1
   obtain ⟨b,hp,hv⟩:=h1
   obtain ⟨b',hp',hblk,hcl,hcr⟩:=hi.bD _ _ hcs
   rw [hp] at hp';cases hp'
   obtain ⟨_,c,ty,vs,suf,hh,hcz,hsp,hrel⟩:=hblk.cells hmb
   have hcells:=h2.cells (dB hlf)
   have hcsz:(a.eval v).cells.size=sz:=by have:=hcells.length;simp at this;omega
   have hsize:=hrel.length
   have hcl2:c.size=vs.length+suf.length:=by rw [←Array.length_toList,hsp,List.length_append]
   have hnl:(a.eval v).cells.toList.length=sz:=by simpa using hcsz
   have hrun:=gr (P:=P) (w:=w) hsz hcsz hh (off:=off) (by omega) (eZ hcells (dB hlf))
   obtain ⟨g1,g2⟩:=hi.ij (cells':=aD cs off (au x)) hcs hp hh (c':=(c.toList.take off++(a.eval v).cells.toList++c.toList.drop (off+(a.eval v).cells.toList.length)).toArray)
     (suf:=suf) (vs:=vs.take off++(a.eval v).cells.toList++vs.drop (off+(a.eval v).cells.toList.length))
     (by rw [←hcz];simp;omega)
     (by
       show c.toList.take off++(a.eval v).cells.toList++c.toList.drop (off+(a.eval v).cells.toList.length)=_
       rw [hsp,List.take_append_of_le_length (by omega),List.drop_append_of_le_length (by omega)]
       simp [List.append_assoc])
     (cG off hrel hcells) (dp hcl hlf) (dp hcr hrf)
   refine ⟨.skip,undef,_,G,?_,.inr ⟨rfl,rfl⟩,by simp [ah],by simpa [AK.key,cM] using g1,G.le_refl,g2⟩
   simp [execOp,hv,Instr.storeAt,Instr.sureAddr,hrun]
 | alloc key z=>
   obtain ⟨t,rfl,rfl,hz,rfl⟩:=ph hc
   obtain ⟨rfl,hcs,rfl⟩:=e7 h
   simp only [AK.key,Option.bind_some] at hcs
   obtain ⟨zv,hz1,hz2⟩:=dH (P:=P) (w:=w) hz
   obtain ⟨zr,zl⟩:=ea (G:=G) (ρ:=num ns) hz2
   obtain ⟨g1,g2,g3⟩:=hi.jL (c:=zv.cells) t hcs zr zl
   refine a7 (s:=Instr.alloc t true (.tuple #[])) (v:=.pointer (some ⟨w.heap.size,0,none⟩)) rfl ?_ ?_ g1 g2 g3
   · simp only [Instr.alloc,Sem.run_bind,hz1,Result.andThen_ok,e6,Sem.run_pure]
   · simp only [ah];exact ⟨_,by simp [Gh.bO],rfl⟩
 | box key sz=>
   obtain ⟨t,y,rfl,rfl,hsz,rfl⟩:=uo hc
   obtain ⟨x,rfl,hcs,hl,hlf,rfl⟩:=ik h
   simp only [AK.key,Option.bind_some] at hcs
   obtain ⟨x',e,h1⟩:=a9 (by simpa using hr)
   cases e
   have hcells:=h1.cells hlf
   obtain ⟨g1,g2,g3⟩:=hi.jL (c:=(a.eval y).cells) t hcs hcells hlf
   refine a7 (s:=Instr.box t (a.eval y)) (v:=.pointer (some ⟨w.heap.size,0,none⟩)) rfl ?_ ?_ g1 g2 g3
   · simp only [Instr.box,Sem.run_bind,e6,Result.andThen_ok,Sem.run_pure]
   · simp only [ah];exact ⟨_,by simp [Gh.bO],rfl⟩
 | fR z=>
   obtain ⟨t,rfl,rfl,hz⟩:=nL hc
   obtain ⟨rfl,rfl⟩:=fJ h
   obtain ⟨zv,hz1,hz2⟩:=dH (P:=P) (w:=w) hz
   obtain ⟨zr,zl⟩:=ea (G:=G) (ρ:=num ns) hz2
   obtain ⟨g1,g2,g3⟩:=hi.jn (c:=zv.cells) t zr zl (uj _ z)
   refine a7 (s:=Instr.alloc t true (.tuple #[])) (v:=.pointer (some ⟨w.heap.size,0,none⟩)) rfl ?_ ?_ g1 g2 g3
   · simp only [Instr.alloc,Sem.run_bind,hz1,Result.andThen_ok,e6,Sem.run_pure]
   · simp only [ah];exact ⟨(w.heap.size,zv.cells.size),by simp [Gh.br],rfl⟩
 | kV sz=>
   obtain ⟨t,y,rfl,rfl,hsz⟩:=rf hc
   obtain ⟨x,rfl,hl,hlf,hrf,rfl⟩:=iB h
   obtain ⟨x',e,h1⟩:=a9 (by simpa using hr)
   cases e
   have hcells:=ke h1 (dB hlf)
   obtain ⟨g1,g2,g3⟩:=hi.jn (c:=(a.eval y).cells) t hcells hlf (eI (Nat.le_succ _) hrf)
   refine a7 (s:=Instr.box t (a.eval y)) (v:=.pointer (some ⟨w.heap.size,0,none⟩)) rfl ?_ ?_ g1 g2 g3
   · simp only [Instr.box,Sem.run_bind,e6,Result.andThen_ok,Sem.run_pure]
   · simp only [ah];exact ⟨(w.heap.size,(a.eval y).cells.size),by simp [Gh.br],rfl⟩
 | nq sz=>
   obtain ⟨t,y,rfl,rfl,hsz⟩:=rh hc
   obtain ⟨x,rfl,hl,hlf,hrf,rfl⟩:=iC h
   obtain ⟨x',e,h1⟩:=a9 (by simpa using hr)
   cases e
   have hcells:=h1.cells (dB hlf)
   obtain ⟨g1,g2,g3⟩:=hi.jn (c:=(a.eval y).cells) t hcells hlf (eI (Nat.le_succ _) hrf)
   refine a7 (s:=Instr.box t (a.eval y)) (v:=.pointer (some ⟨w.heap.size,0,none⟩)) rfl ?_ ?_ g1 g2 g3
   · simp only [Instr.box,Sem.run_bind,e6,Result.andThen_ok,Sem.run_pure]
   · simp only [ah];exact ⟨(w.heap.size,(a.eval y).cells.size),by simp [Gh.br],rfl⟩
 | gO sz by_ ag z=>
   obtain ⟨t,e,l,c,rfl,rfl,hu,hsz,hby,hz,hzl,h0⟩:=pj hc
   obtain ⟨k,k',n,rfl,h1,h2,h3,_,rfl⟩:=gz h
   obtain ⟨x1,x2,e',r1,r2⟩:=bG (by simpa using hr)
   cases e'
   obtain ⟨v,w',G',g1,g2,g3,g4,g5⟩:=o8 (k:=k) (k':=k') (ag:=ag) hu hsz hby hz hzl h0 h1 h2 h3 hi
   refine a7 (s:=Instr.makeSlice t (a.eval l) (a.eval c)) rfl ?_ g2 g3 g4 g5
   rw [fG r1,fG r2];exact g1
 | fp d sz by_ z=>
   obtain ⟨t,e,l,c,rfl,rfl,hu,hsz,hby,hz,hzl,h0,rfl⟩:=pk hc
   obtain ⟨k,k',n,rfl,h1,h2,h3,_,hcs,rfl⟩:=e8 h
   simp only [AK.key,Option.bind_some] at hcs
   obtain ⟨x1,x2,e',r1,r2⟩:=bG (by simpa using hr)
   cases e'
   obtain ⟨v,w',G',g1,g2,g3,g4,g5⟩:=o9 (k:=k) (k':=k') hu hsz hby hz hzl h0 h1 h2 h3 hi hcs
   refine a7 (s:=Instr.makeSlice t (a.eval l) (a.eval c)) rfl ?_ g2 g3 g4 g5
   rw [fG r1,fG r2];exact g1
 | append sz by_=>
   obtain ⟨c,rfl⟩:=nM hc
   obtain ⟨x,y,t,e,t1,e1,z,hcal,hargs,rfl,h0,h1,hu,hu1,hsz,hby,hz,hzl,hs0,hb0⟩:=q' hc
   obtain ⟨s,x',y',ts,rfl,happ,rfl⟩:=fK h
   obtain ⟨x1,x2,e',r1,r2⟩:=bG (by simpa using hr)
   cases e'
   obtain ⟨v,w',G',g1,g2,g3,g4,g5⟩:=nE (type:=type) h0 h1 hu hu1 hsz hby hz hzl hb0 r1 r2 hi happ
   refine a7 (s:=Builtin.append_ c.argTypes type #[a.eval x,a.eval y]) ?_ g1 g2 g3 g4 g5
   obtain ⟨callee,cargs,ctypes⟩:=c
   simp only at hcal hargs
   subst hcal;subst hargs
   simp [execOp,resolve,invoke,builtin]
 | cS sz by_ ag=>
   obtain ⟨c,rfl⟩:=mz hc
   obtain ⟨x,y,t,e,t1,e1,z,hcal,hargs,rfl,h0,h1,hu,hu1,hsz,hby,hz,hzl,hs0,hb0⟩:=o7 hc
   obtain ⟨s,x',xs,y',sh',rfl,hxs,hhx,happ,rfl⟩:=gC h
   obtain ⟨x1,x2,e',r1,r2⟩:=bG (by simpa using hr)
   cases e'
   obtain ⟨v,w',G',g1,g2,g3,g4,g5⟩:=mw (type:=type) h0 h1 hu hu1 hsz hby hz hzl hb0 r1 r2 hi hxs hhx happ
   refine a7 (s:=Builtin.append_ c.argTypes type #[a.eval x,a.eval y]) ?_ g1 g2 g3 g4 g5
   obtain ⟨callee,cargs,ctypes⟩:=c
   simp only at hcal hargs
   subst hcal;subst hargs
   simp [execOp,resolve,invoke,builtin]
 | dz sz by_=>
   obtain ⟨c,rfl⟩:=mA hc
   obtain ⟨x,y,u,t,e,t1,e1,z,hcal,hargs,rfl,h0,h1,hu,hu1,hsz,hby,hz,hzl,hsz0,hb0⟩:=pc hc
   obtain ⟨s,x',e',xs,p,rfl,hxs,hdp,rfl⟩:=eJ h
   obtain ⟨x1,x2,x3,e'',r1,r2,r3⟩:=ig (by simpa using hr)
   cases e''
   obtain ⟨v,w',G',g1,g2,g3,g4,g5⟩:=my (type:=type) h0 h1 hu hu1 hsz hby hz hzl hb0 r1 r2 r3 hi hxs hdp
   refine a7 (s:=Builtin.append_ c.argTypes type #[a.eval x,a.eval y]) ?_ g1 g2 g3 g4 g5
   obtain ⟨callee,cargs,ctypes⟩:=c
   simp only at hcal hargs
   subst hcal;subst hargs
   simp [execOp,resolve,invoke,builtin]
 | gP sz=>
   obtain ⟨c,rfl⟩:=pn hc
   obtain ⟨x,y,t,e,t1,e1,hcal,hargs,rfl,h0,h1,hu,hu1,hsz⟩:=um hc
   obtain ⟨x',y',xs,k,sh',rfl,hxs,hcp,rfl⟩:=gB h
   obtain ⟨x1,x2,e',r1,r2⟩:=bG (by simpa using hr)
   cases e'
   obtain ⟨w',g1,g2,g3⟩:=pa (type:=type) h0 hu hsz r1 r2 hi hxs hcp
   refine a7 (s:=Builtin.copy_ c.argTypes type #[a.eval x,a.eval y]) (v:=.int .i64 k) ?_ g1 (by simp only [ah];exact dn.2 rfl) g2 G.le_refl g3
   obtain ⟨callee,cargs,ctypes⟩:=c
   simp only at hcal hargs
   subst hcal;subst hargs
   simp [execOp,resolve,invoke,builtin]
 | eM sz z=>
   obtain ⟨c,rfl⟩:=nN hc
   obtain ⟨x,t,e,hcal,hargs,rfl,h0,hu,hsz,hz,hzl,hs0⟩:=re hc
   obtain ⟨x',sh',rfl,hcl,rfl⟩:=kd h
   obtain ⟨x1,e',r1⟩:=a9 (by simpa using hr)
   cases e'
   obtain ⟨w',g1,g2,g3⟩:=nH (type:=type) h0 hu hz hzl hs0 r1 hi hcl
   refine a7 (s:=Builtin.clear_ c.argTypes type #[a.eval x]) (v:=.tuple #[]) ?_ g1 (by simp only [ah];exact ⟨[],rfl,by simp [ae]⟩) g2 G.le_refl g3
   obtain ⟨callee,cargs,ctypes⟩:=c
   simp only at hcal hargs
   subst hcal;subst hargs
   simp [execOp,resolve,invoke,builtin]
end
end Go.Ab
