import Derived.Test.YtcjggpmnbcfedaaGreatDoorAbOps11
/-
  Each operation that calls nothing.
-/
set_option linter.unusedVariables false
set_option linter.unusedSimpArgs false
set_option linter.unnecessarySimpa false
set_option maxRecDepth 100000
set_option maxHeartbeats 8000000
namespace Go.Ab
section
variable {P:Program} {ns:Names} {G:Gh} {w:World}
def AK.calls:AK→Bool
 | .aq _ | .d7 _ | .aF .. | .lA _ | .jG | .dw | .clone .. | .lQ ..=>true
 | _=>false
theorem e8 {mem:List (Nat×List AV)} (k:Option Nat):eX mem k none=mem:=by cases k<;>rfl
theorem qB {v:AV} {rv:Value} (h:au (num ns) G v rv) (hl:(cB v).all bm=true):aw (num ns) G (cB v) rv.cells.toList:=by
 cases v with
 | bJ l=>exact au.cells (x:=.bJ l) h hl
 | own l τ=>exact au.cells (x:=.own l τ) h hl
 | _=>
   simp only [cB] at hl ⊢
   split
   · rename_i p hp
     simp only [hp] at hl
     exact au.cells (by simp only [au];exact mH hp h) hl
   · rename_i hp
     simp only [hp] at hl
     exact h.cells hl
theorem cG {mem:List (Nat×List AV)} {sh:Sh} {ae:aH} {s:Sem Value} {s':Sem Next} {x:AV} {v:Value} {w':World} {G':Gh} (hs:s'=(do pure (.value (←s)))) (h1:s.run P w=.ok v w') (h2:au (num ns) G' x v)
   (h3:Inv (num ns) G' w' mem sh ae) (h4:G.le G') (h5:bZ G w G' w'):Ri ns P G w mem sh ae s' x:=
 ⟨.value v,v,w',G',by rw [hs];simp only [Sem.run_bind,h1,Result.andThen_ok,Sem.run_pure],.inl rfl,h2,h3,h4,h5⟩
theorem qC {A:lJ} {o:Oper} {k:AK} {args:List Operand} {orc:eu} (hc:bH P ns A o.dst o.op=some (k,args)) (hk:k.calls=false) {a:Act} {vals:List AV} {out:Out}
   {mem:List (Nat×List AV)} {sh:Sh} {ae:aH} (hr:aw (num ns) G vals (args.map a.eval)) (hi:Inv (num ns) G w mem sh ae)
   (h:exec orc k vals (k.key.bind (look mem)) sh ae=some out) :
   Ri ns P G w (eX mem k.key out.cells) out.sh out.ae (execOp a.eval o) out.val:=by
 obtain ⟨dst,op,type,pos,after,guard⟩:=o
 cases k with
 | v vo=>
   simp only [exec,Option.map_eq_some_iff] at h
   obtain ⟨x,h1,rfl⟩:=h
   obtain ⟨v,w',G',g1,g2,g3,g4,g5⟩:=yc hc hr hi h1
   exact ⟨.value v,v,w',G',g1,.inl rfl,g2,by simpa [e8] using g3,g4,g5⟩
 | aq g=>simp [AK.calls] at hk
 | d7 g=>simp [AK.calls] at hk
 | aF g own=>simp [AK.calls] at hk
 | lA g=>simp [AK.calls] at hk
 | jG=>simp [AK.calls] at hk
 | dw=>simp [AK.calls] at hk
 | clone sz by_=>simp [AK.calls] at hk
 | lQ sz by_ ag=>simp [AK.calls] at hk
 | ot=>
   obtain ⟨t,rfl,rfl⟩:=yx hc
   obtain ⟨rfl,rfl⟩:=kN h
   obtain ⟨g1,g2,g3⟩:=hi.allocMap
   refine cG (s:=Instr.makeMap t none) (v:=.map (some w.heap.size)) rfl ?_ ?_ g1 g2 g3
   · rfl
   · simp only [au];exact ⟨(w.heap.size,0),by simp [Gh.dq],rfl⟩
 | ku c ok z=>
   obtain ⟨t,x,i,kt,et,rfl,rfl,hu,hk1,hz⟩:=yy hc
   obtain ⟨s,k,kvs,r,rfl,hs,hf,rfl⟩:=jw h
   obtain ⟨x1,x2,e,h1,h2⟩:=dB (by simpa using hr)
   cases e
   simp only [au] at h1 h2
   obtain ⟨b,hp,hv⟩:=h1
   obtain ⟨b',hp',hblk,_⟩:=hi.dp _ _ hs
   rw [hp] at hp';cases hp'
   obtain ⟨_,o,hh,hold⟩:=hblk
   rcases hold with ⟨_,_,_,_,_,_,_,hbad⟩ | ⟨es,clock,kvs',rfl,e,hm⟩
   · exact absurd (rX hbad) (by simp [c_])
   · cases e
     obtain ⟨zv,hz1,hz2⟩:=A_ (P:=P) (w:=w) (K:=G.K) hz
     obtain ⟨d,hd⟩:=oF hk1
     have hget:(getObj b.1).run P w=.ok (.map es clock) w:=by simp [getObj,Sem.run,hh]
     have key:∃u,(Instr.lookup t (a.eval x) (a.eval i) ok).run P w=.ok u w∧au (num ns) G (jH ok z r) u:=by
       rcases qt hk1 hd h2 0 hm hf with ⟨rfl,hfn⟩ | ⟨p,v,j,rfl,hfn,hpv⟩
       · refine ⟨if ok then .tuple #[zv,.bool false] else zv,?_,?_⟩
         · rw [hv]
           simp only [Instr.lookup,Sem.run_bind,run_underlying hu,Result.andThen_ok,hget,Sem.run_pure,hU hk1,jN hd hfn,hz1]
         · unfold jH
           cases ok
           · simpa [au] using hz2
           · simp only [if_true,au]
             exact ⟨[zv,.bool false],by simp,by simp only [aw,au];exact ⟨_,_,rfl,by simpa using hz2,_,_,rfl,fU.2 rfl,rfl⟩⟩
       · refine ⟨if ok then .tuple #[v,.bool true] else v,?_,?_⟩
         · rw [hv]
           simp only [Instr.lookup,Sem.run_bind,run_underlying hu,Result.andThen_ok,hget,Sem.run_pure,hU hk1,jN hd hfn]
         · unfold jH
           cases ok
           · simpa [au] using hpv
           · simp only [if_true,au]
             exact ⟨[v,.bool true],by simp,by simp only [aw,au];exact ⟨_,_,rfl,by simpa using hpv,_,_,rfl,fU.2 rfl,rfl⟩⟩
     obtain ⟨u,g1,g2⟩:=key
     exact cG (s:=Instr.lookup t (a.eval x) (a.eval i) ok) (v:=u) (w':=w) rfl g1 g2 (by simpa [e8] using hi) G.le_refl (bZ.refl G w)
 | rR c=>
   obtain ⟨t,m,i,x,kt,et,hop,rfl,hu,hk1⟩:=Bf hc
   obtain ⟨s,k,v,kvs,p,kvs',rfl,hs,hfz,hput,rfl⟩:=mL h
   obtain ⟨x1,x2,x3,e,h1,h2,h3⟩:=l3 (by simpa using hr)
   cases e
   have h3:=mH hfz h3
   simp only [au] at h1 h2
   obtain ⟨b,hp,hv⟩:=h1
   obtain ⟨b',hp',hblk,_⟩:=hi.dp _ _ hs
   rw [hp] at hp';cases hp'
   obtain ⟨_,o,hh,hold⟩:=hblk
   rcases hold with ⟨_,_,_,_,_,_,_,hbad⟩ | ⟨es,clock,kvs0,rfl,e,hm⟩
   · exact absurd (rX hbad) (by simp [c_])
   · cases e
     obtain ⟨d,hd⟩:=oF hk1
     obtain ⟨es',clock',hrun,hm'⟩:=ue (P:=P) (w:=w) hu hk1 hd hh h2 h3 hm hput
     obtain ⟨g1,g2⟩:=hi.Jg (es:=es') (clock:=clock') hs hp hm'
     have:(execOp a.eval ⟨dst,op,type,pos,after,guard⟩).run P w=.ok .skip (w.putObj b.1 (.map es' clock')):=by
       rcases hop with rfl | rfl<;>simp [execOp,hv,hrun]
     exact ⟨.skip,undef,_,G,this,.inr ⟨rfl,rfl⟩,by simp [au],by simpa [AK.key,eX] using g1,G.le_refl,g2⟩
 | bh key off sz ag=>
   obtain ⟨t,tx,rfl,rfl,hsz,hag⟩:=yn hc
   obtain ⟨cs,x,rfl,hcs,hx,rfl⟩:=iB h
   simp only [AK.key,Option.bind_some] at hcs
   obtain ⟨x',e,h1⟩:=cI (by simpa using hr)
   cases e
   simp only [au] at h1
   obtain ⟨b,hp,hv⟩:=h1
   obtain ⟨b',hp',hblk,_⟩:=hi.cW _ _ hcs
   rw [hp] at hp';cases hp'
   obtain ⟨_,c,ty,hh,hrel⟩:=hblk
   obtain ⟨u,g1,g2⟩:=ga (w:=w) hsz hag hx hrel (gB hh)
   refine cG (s:=Instr.loadAt t (a.eval (.tmp tx))) (v:=u) (w':=w) rfl ?_ g2 (by simpa [e8] using hi) G.le_refl (bZ.refl G w)
   rw [hv];simp [Instr.loadAt,Instr.sureAddr,g1]
 | bf sz ag=>
   obtain ⟨t,tx,rfl,rfl,hsz,hag⟩:=yp hc
   obtain ⟨p,x,rfl,rfl,hor⟩:=kL h
   obtain ⟨x',e,h1⟩:=cI (by simpa using hr)
   cases e
   rcases hor with ⟨cs,rfl,hx⟩ | ⟨s,off,cs,rfl,hcs,hx⟩
   · simp only [au] at h1
     obtain ⟨b,o,vs,hv,ha,hrl⟩:=h1
     obtain ⟨u,g1,g2⟩:=ng (ns:=ns) (w:=w) hsz hag hx hrl (fun j v hj=>hi.known _ _ _ (ha j v hj))
     refine cG (s:=Instr.loadAt t (a.eval (.tmp tx))) (v:=u) (w':=w) rfl ?_ g2 (by simpa [e8] using hi) G.le_refl (bZ.refl G w)
     rw [hv];simp [Instr.loadAt,Instr.sureAddr,g1]
   · obtain ⟨hmb,hx⟩:=hx
     simp only [au] at h1
     obtain ⟨b,hp,hv⟩:=h1
     obtain ⟨b',hp',hblk,_⟩:=hi.dp _ _ hcs
     rw [hp] at hp';cases hp'
     obtain ⟨_,c,ty,vs,suf,hh,_,hsp,hrel⟩:=hblk.cells hmb
     obtain ⟨u,g1,g2⟩:=ga (w:=w) hsz hag hx hrel (oC hh hsp)
     refine cG (s:=Instr.loadAt t (a.eval (.tmp tx))) (v:=u) (w':=w) rfl ?_ g2 (by simpa [e8] using hi) G.le_refl (bZ.refl G w)
     rw [hv];simp [Instr.loadAt,Instr.sureAddr,g1]
 | cY key off sz=>
   obtain ⟨t,tx,v,rfl,rfl,hsz⟩:=wj hc
   obtain ⟨cs,x,rfl,hcs,hl,hlf,hle,rfl⟩:=iL h
   simp only [AK.key,Option.bind_some] at hcs
   obtain ⟨x1,x2,e,h1,h2⟩:=dB (by simpa using hr)
   cases e
   simp only [au] at h1
   obtain ⟨b,hp,hv⟩:=h1
   obtain ⟨b',hp',hblk,hcl⟩:=hi.cW _ _ hcs
   rw [hp] at hp';cases hp'
   obtain ⟨_,c,ty,hh,hrel⟩:=hblk
   have hcells:=h2.cells hlf
   have hcsz:(a.eval v).cells.size=sz:=by have:=hcells.length;simp at this;omega
   have hsize:=hrel.length
   simp at hsize
   have hrun:=kI (P:=P) (w:=w) hsz hcsz hh (off:=off) (by omega) (js hcells hlf)
   obtain ⟨g1,g2⟩:=hi.Fx (cells':=bn cs off (bg x)) hcs hp (c':=(c.toList.take off++(a.eval v).cells.toList++c.toList.drop (off+(a.eval v).cells.toList.length)).toArray)
     (by simpa using eH off hrel hcells) (gf hcl hlf)
   refine ⟨.skip,undef,_,G,?_,.inr ⟨rfl,rfl⟩,by simp [au],g1,G.le_refl,g2⟩
   simp [execOp,hv,Instr.storeAt,Instr.sureAddr,hrun]
 | cZ sz=>
   obtain ⟨t,tx,v,rfl,rfl,hsz⟩:=wm hc
   obtain ⟨s,off,x,cs,rfl,hcs,hmb,hl,hle,hlf,hrf,rfl⟩:=iM h
   obtain ⟨x1,x2,e,h1,h2⟩:=dB (by simpa using hr)
   cases e
   simp only [au] at h1
   obtain ⟨b,hp,hv⟩:=h1
   obtain ⟨b',hp',hblk,hcl,hcr⟩:=hi.dp _ _ hcs
   rw [hp] at hp';cases hp'
   obtain ⟨_,c,ty,vs,suf,hh,hcz,hsp,hrel⟩:=hblk.cells hmb
   have hcells:=qB h2 (gI hlf)
   have hcsz:(a.eval v).cells.size=sz:=by have:=hcells.length;simp at this;omega
   have hsize:=hrel.length
   have hcl2:c.size=vs.length+suf.length:=by rw [←Array.length_toList,hsp,List.length_append]
   have hnl:(a.eval v).cells.toList.length=sz:=by simpa using hcsz
   have hrun:=kI (P:=P) (w:=w) hsz hcsz hh (off:=off) (by omega) (js hcells (gI hlf))
   obtain ⟨g1,g2⟩:=hi.l4 (cells':=bn cs off (cB x)) hcs hp hh (c':=(c.toList.take off++(a.eval v).cells.toList++c.toList.drop (off+(a.eval v).cells.toList.length)).toArray)
     (suf:=suf) (vs:=vs.take off++(a.eval v).cells.toList++vs.drop (off+(a.eval v).cells.toList.length))
     (by rw [←hcz];simp;omega)
     (by
       show c.toList.take off++(a.eval v).cells.toList++c.toList.drop (off+(a.eval v).cells.toList.length)=_
       rw [hsp,List.take_append_of_le_length (by omega),List.drop_append_of_le_length (by omega)]
       simp [List.append_assoc])
     (eH off hrel hcells) (gf hcl hlf) (gf hcr hrf)
   refine ⟨.skip,undef,_,G,?_,.inr ⟨rfl,rfl⟩,by simp [au],by simpa [AK.key,eX] using g1,G.le_refl,g2⟩
   simp [execOp,hv,Instr.storeAt,Instr.sureAddr,hrun]
 | kG sz=>
   obtain ⟨t,tx,v,rfl,rfl,hsz⟩:=wo hc
   obtain ⟨s,off,x,cs,rfl,hcs,hmb,hl,hle,hlf,hrf,rfl⟩:=jR h
   obtain ⟨x1,x2,e,h1,h2⟩:=dB (by simpa using hr)
   cases e
   simp only [au] at h1
   obtain ⟨b,hp,hv⟩:=h1
   obtain ⟨b',hp',hblk,hcl,hcr⟩:=hi.dp _ _ hcs
   rw [hp] at hp';cases hp'
   obtain ⟨_,c,ty,vs,suf,hh,hcz,hsp,hrel⟩:=hblk.cells hmb
   have hcells:=h2.cells (gI hlf)
   have hcsz:(a.eval v).cells.size=sz:=by have:=hcells.length;simp at this;omega
   have hsize:=hrel.length
   have hcl2:c.size=vs.length+suf.length:=by rw [←Array.length_toList,hsp,List.length_append]
   have hnl:(a.eval v).cells.toList.length=sz:=by simpa using hcsz
   have hrun:=kI (P:=P) (w:=w) hsz hcsz hh (off:=off) (by omega) (js hcells (gI hlf))
   obtain ⟨g1,g2⟩:=hi.l4 (cells':=bn cs off (bg x)) hcs hp hh (c':=(c.toList.take off++(a.eval v).cells.toList++c.toList.drop (off+(a.eval v).cells.toList.length)).toArray)
     (suf:=suf) (vs:=vs.take off++(a.eval v).cells.toList++vs.drop (off+(a.eval v).cells.toList.length))
     (by rw [←hcz];simp;omega)
     (by
       show c.toList.take off++(a.eval v).cells.toList++c.toList.drop (off+(a.eval v).cells.toList.length)=_
       rw [hsp,List.take_append_of_le_length (by omega),List.drop_append_of_le_length (by omega)]
       simp [List.append_assoc])
     (eH off hrel hcells) (gf hcl hlf) (gf hcr hrf)
   refine ⟨.skip,undef,_,G,?_,.inr ⟨rfl,rfl⟩,by simp [au],by simpa [AK.key,eX] using g1,G.le_refl,g2⟩
   simp [execOp,hv,Instr.storeAt,Instr.sureAddr,hrun]
 | alloc key z=>
   obtain ⟨t,rfl,rfl,hz,rfl⟩:=yq hc
   obtain ⟨rfl,hcs,rfl⟩:=jt h
   simp only [AK.key,Option.bind_some] at hcs
   obtain ⟨zv,hz1,hz2⟩:=gP (P:=P) (w:=w) hz
   obtain ⟨zr,zl⟩:=iG (G:=G) (ρ:=num ns) hz2
   obtain ⟨g1,g2,g3⟩:=hi.pI (c:=zv.cells) t hcs zr zl
   refine cG (s:=Instr.alloc t true (.tuple #[])) (v:=.pointer (some ⟨w.heap.size,0,none⟩)) rfl ?_ ?_ g1 g2 g3
   · simp only [Instr.alloc,Sem.run_bind,hz1,Result.andThen_ok,gK,Sem.run_pure]
   · simp only [au];exact ⟨_,by simp [Gh.d0],rfl⟩
 | box key sz=>
   obtain ⟨t,y,rfl,rfl,hsz,rfl⟩:=FD hc
   obtain ⟨x,rfl,hcs,hl,hlf,rfl⟩:=l6 h
   simp only [AK.key,Option.bind_some] at hcs
   obtain ⟨x',e,h1⟩:=cI (by simpa using hr)
   cases e
   have hcells:=h1.cells hlf
   obtain ⟨g1,g2,g3⟩:=hi.pI (c:=(a.eval y).cells) t hcs hcells hlf
   refine cG (s:=Instr.box t (a.eval y)) (v:=.pointer (some ⟨w.heap.size,0,none⟩)) rfl ?_ ?_ g1 g2 g3
   · simp only [Instr.box,Sem.run_bind,gK,Result.andThen_ok,Sem.run_pure]
   · simp only [au];exact ⟨_,by simp [Gh.d0],rfl⟩
 | jX z=>
   obtain ⟨t,rfl,rfl,hz⟩:=wq hc
   obtain ⟨rfl,rfl⟩:=jS h
   obtain ⟨zv,hz1,hz2⟩:=gP (P:=P) (w:=w) hz
   obtain ⟨zr,zl⟩:=iG (G:=G) (ρ:=num ns) hz2
   obtain ⟨g1,g2,g3⟩:=hi.oG (c:=zv.cells) t zr zl (FA _ z)
   refine cG (s:=Instr.alloc t true (.tuple #[])) (v:=.pointer (some ⟨w.heap.size,0,none⟩)) rfl ?_ ?_ g1 g2 g3
   · simp only [Instr.alloc,Sem.run_bind,hz1,Result.andThen_ok,gK,Sem.run_pure]
   · simp only [au];exact ⟨(w.heap.size,zv.cells.size),by simp [Gh.dq],rfl⟩
 | nA sz=>
   obtain ⟨t,y,rfl,rfl,hsz⟩:=Bc hc
   obtain ⟨x,rfl,hl,hlf,hrf,rfl⟩:=mJ h
   obtain ⟨x',e,h1⟩:=cI (by simpa using hr)
   cases e
   have hcells:=qB h1 (gI hlf)
   obtain ⟨g1,g2,g3⟩:=hi.oG (c:=(a.eval y).cells) t hcells hlf (jd (Nat.le_succ _) hrf)
   refine cG (s:=Instr.box t (a.eval y)) (v:=.pointer (some ⟨w.heap.size,0,none⟩)) rfl ?_ ?_ g1 g2 g3
   · simp only [Instr.box,Sem.run_bind,gK,Result.andThen_ok,Sem.run_pure]
   · simp only [au];exact ⟨(w.heap.size,(a.eval y).cells.size),by simp [Gh.dq],rfl⟩
 | vW sz=>
   obtain ⟨t,y,rfl,rfl,hsz⟩:=Be hc
   obtain ⟨x,rfl,hl,hlf,hrf,rfl⟩:=mK h
   obtain ⟨x',e,h1⟩:=cI (by simpa using hr)
   cases e
   have hcells:=h1.cells (gI hlf)
   obtain ⟨g1,g2,g3⟩:=hi.oG (c:=(a.eval y).cells) t hcells hlf (jd (Nat.le_succ _) hrf)
   refine cG (s:=Instr.box t (a.eval y)) (v:=.pointer (some ⟨w.heap.size,0,none⟩)) rfl ?_ ?_ g1 g2 g3
   · simp only [Instr.box,Sem.run_bind,gK,Result.andThen_ok,Sem.run_pure]
   · simp only [au];exact ⟨(w.heap.size,(a.eval y).cells.size),by simp [Gh.dq],rfl⟩
 | iY sz by_ ag z=>
   obtain ⟨t,e,l,c,rfl,rfl,hu,hsz,hby,hz,hzl,h0⟩:=yt hc
   obtain ⟨k,k',n,rfl,h1,h2,h3,_,rfl⟩:=kM h
   obtain ⟨x1,x2,e',r1,r2⟩:=dB (by simpa using hr)
   cases e'
   obtain ⟨v,w',G',g1,g2,g3,g4,g5⟩:=ye (k:=k) (k':=k') (ag:=ag) hu hsz hby hz hzl h0 h1 h2 h3 hi
   refine cG (s:=Instr.makeSlice t (a.eval l) (a.eval c)) rfl ?_ g2 g3 g4 g5
   rw [jQ r1,jQ r2];exact g1
 | kr d sz by_ z=>
   obtain ⟨t,e,l,c,rfl,rfl,hu,hsz,hby,hz,hzl,h0,rfl⟩:=yu hc
   obtain ⟨k,k',n,rfl,h1,h2,h3,_,hcs,rfl⟩:=jv h
   simp only [AK.key,Option.bind_some] at hcs
   obtain ⟨x1,x2,e',r1,r2⟩:=dB (by simpa using hr)
   cases e'
   obtain ⟨v,w',G',g1,g2,g3,g4,g5⟩:=yg (k:=k) (k':=k') hu hsz hby hz hzl h0 h1 h2 h3 hi hcs
   refine cG (s:=Instr.makeSlice t (a.eval l) (a.eval c)) rfl ?_ g2 g3 g4 g5
   rw [jQ r1,jQ r2];exact g1
 | append sz by_=>
   obtain ⟨c,rfl⟩:=wt hc
   obtain ⟨x,y,t,e,t1,e1,z,hcal,hargs,rfl,h0,h1,hu,hu1,hsz,hby,hz,hzl,hs0,hb0⟩:=A' hc
   obtain ⟨s,x',y',ts,rfl,happ,rfl⟩:=jT h
   obtain ⟨x1,x2,e',r1,r2⟩:=dB (by simpa using hr)
   cases e'
   obtain ⟨v,w',G',g1,g2,g3,g4,g5⟩:=wg (type:=type) h0 h1 hu hu1 hsz hby hz hzl hb0 r1 r2 hi happ
   refine cG (s:=Builtin.append_ c.argTypes type #[a.eval x,a.eval y]) ?_ g1 g2 g3 g4 g5
   obtain ⟨callee,cargs,ctypes⟩:=c
   simp only at hcal hargs
   subst hcal;subst hargs
   simp [execOp,resolve,invoke,builtin]
 | dH sz by_ ag=>
   obtain ⟨c,rfl⟩:=uh hc
   obtain ⟨x,y,t,e,t1,e1,z,hcal,hargs,rfl,h0,h1,hu,hu1,hsz,hby,hz,hzl,hs0,hb0⟩:=yd hc
   obtain ⟨s,x',xs,y',sh',rfl,hxs,hhx,happ,rfl⟩:=kP h
   obtain ⟨x1,x2,e',r1,r2⟩:=dB (by simpa using hr)
   cases e'
   obtain ⟨v,w',G',g1,g2,g3,g4,g5⟩:=uf (type:=type) h0 h1 hu hu1 hsz hby hz hzl hb0 r1 r2 hi hxs hhx happ
   refine cG (s:=Builtin.append_ c.argTypes type #[a.eval x,a.eval y]) ?_ g1 g2 g3 g4 g5
   obtain ⟨callee,cargs,ctypes⟩:=c
   simp only at hcal hargs
   subst hcal;subst hargs
   simp [execOp,resolve,invoke,builtin]
 | gW sz by_=>
   obtain ⟨c,rfl⟩:=ui hc
   obtain ⟨x,y,u,t,e,t1,e1,z,hcal,hargs,rfl,h0,h1,hu,hu1,hsz,hby,hz,hzl,hsz0,hb0⟩:=ym hc
   obtain ⟨s,x',e',xs,p,rfl,hxs,hdp,rfl⟩:=je h
   obtain ⟨x1,x2,x3,e'',r1,r2,r3⟩:=l3 (by simpa using hr)
   cases e''
   obtain ⟨v,w',G',g1,g2,g3,g4,g5⟩:=ug (type:=type) h0 h1 hu hu1 hsz hby hz hzl hb0 r1 r2 r3 hi hxs hdp
   refine cG (s:=Builtin.append_ c.argTypes type #[a.eval x,a.eval y]) ?_ g1 g2 g3 g4 g5
   obtain ⟨callee,cargs,ctypes⟩:=c
   simp only at hcal hargs
   subst hcal;subst hargs
   simp [execOp,resolve,invoke,builtin]
 | lR sz=>
   obtain ⟨c,rfl⟩:=yv hc
   obtain ⟨x,y,t,e,t1,e1,hcal,hargs,rfl,h0,h1,hu,hu1,hsz⟩:=FC hc
   obtain ⟨x',y',xs,k,sh',rfl,hxs,hcp,rfl⟩:=kO h
   obtain ⟨x1,x2,e',r1,r2⟩:=dB (by simpa using hr)
   cases e'
   obtain ⟨w',g1,g2,g3⟩:=yi (type:=type) h0 hu hsz r1 r2 hi hxs hcp
   refine cG (s:=Builtin.copy_ c.argTypes type #[a.eval x,a.eval y]) (v:=.int .i64 k) ?_ g1 (by simp only [au];exact cD.2 rfl) g2 G.le_refl g3
   obtain ⟨callee,cargs,ctypes⟩:=c
   simp only at hcal hargs
   subst hcal;subst hargs
   simp [execOp,resolve,invoke,builtin]
 | jY sz z=>
   obtain ⟨c,rfl⟩:=wu hc
   obtain ⟨x,t,e,hcal,hargs,rfl,h0,hu,hsz,hz,hzl,hs0⟩:=Bb hc
   obtain ⟨x',sh',rfl,hcl,rfl⟩:=qA h
   obtain ⟨x1,e',r1⟩:=cI (by simpa using hr)
   cases e'
   obtain ⟨w',g1,g2,g3⟩:=wi (type:=type) h0 hu hz hzl hs0 r1 hi hcl
   refine cG (s:=Builtin.clear_ c.argTypes type #[a.eval x]) (v:=.tuple #[]) ?_ g1 (by simp only [au];exact ⟨[],rfl,by simp [aw]⟩) g2 G.le_refl g3
   obtain ⟨callee,cargs,ctypes⟩:=c
   simp only at hcal hargs
   subst hcal;subst hargs
   simp [execOp,resolve,invoke,builtin]
end
end Go.Ab
