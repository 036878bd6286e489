import Derived.Test.YtfhhognolpjikaaGreatAbOps11
/-
  Each operation that calls nothing.
-/
set_option linter.unusedVariables false
set_option linter.unusedSimpArgs false
set_option maxRecDepth 100000
set_option maxHeartbeats 8000000
namespace Go.Ab
section
variable {P:Program} {ns:Names} {G:Gh} {w:World}
def AK.calls:AK→Bool
 | .aA _ | .dG _ | .aL .. | .jn _ | .ff | .clone ..=>true
 | _=>false
theorem fc {mem:List (Nat×List AV)} (k:Option Nat):fp mem k none=mem:=by cases k<;>rfl
theorem o6 {v:AV} {rv:Value} (h:aE (num ns) G v rv) (hl:(cp v).all bm=true):aB (num ns) G (cp v) rv.cells.toList:=by
 cases v with
 | bD l=>exact aE.cells (x:=.bD l) h hl
 | own l τ=>exact aE.cells (x:=.own l τ) h hl
 | _=>
   simp only [cp] at hl ⊢
   split
   · rename_i p hp
     simp only [hp] at hl
     exact aE.cells (by simp only [aE];exact lf hp h) hl
   · rename_i hp
     simp only [hp] at hl
     exact h.cells hl
theorem df {mem:List (Nat×List AV)} {sh:Sh} {ah:aM} {s:Sem Value} {s':Sem Next} {x:AV} {v:Value} {w':World} {G':Gh} (hs:s'=(do pure (.value (←s)))) (h1:s.run P w=.ok v w') (h2:aE (num ns) G' x v)
   (h3:Inv (num ns) G' w' mem sh ah) (h4:G.le G') (h5:cu G w G' w'):Oi ns P G w mem sh ah s' x:=
 ⟨.value v,v,w',G',by rw [hs];simp only [Sem.run_bind,h1,Result.andThen_ok,Sem.run_pure],.inl rfl,h2,h3,h4,h5⟩
theorem o7 {A:nO} {o:Oper} {k:AK} {args:List Operand} {orc:eM} (hc:cb P ns A o.dst o.op=some (k,args)) (hk:k.calls=false) {a:Act} {vals:List AV} {out:Out}
   {mem:List (Nat×List AV)} {sh:Sh} {ah:aM} (hr:aB (num ns) G vals (args.map a.eval)) (hi:Inv (num ns) G w mem sh ah)
   (h:exec orc k vals (k.key.bind (look mem)) sh ah=some out) :
   Oi ns P G w (fp mem k.key out.cells) out.sh out.ah (execOp a.eval o) out.val:=by
 obtain ⟨dst,op,type,pos,after,guard⟩:=o
 cases k with
 | v vo=>
   simp only [exec,Option.map_eq_some_iff] at h
   obtain ⟨x,h1,rfl⟩:=h
   obtain ⟨v,w',G',g1,g2,g3,g4,g5⟩:=vJ hc hr hi h1
   exact ⟨.value v,v,w',G',g1,.inl rfl,g2,by simpa [fc] using g3,g4,g5⟩
 | aA g=>simp [AK.calls] at hk
 | dG g=>simp [AK.calls] at hk
 | aL g own=>simp [AK.calls] at hk
 | jn g=>simp [AK.calls] at hk
 | ff=>simp [AK.calls] at hk
 | clone sz by_=>simp [AK.calls] at hk
 | ko=>
   obtain ⟨t,rfl,rfl⟩:=vR hc
   obtain ⟨rfl,rfl⟩:=jL h
   obtain ⟨g1,g2,g3⟩:=hi.allocMap
   refine df (s:=Instr.makeMap t none) (v:=.map (some w.heap.size)) rfl ?_ ?_ g1 g2 g3
   · rfl
   · simp only [aE];exact ⟨(w.heap.size,0),by simp [Gh.de],rfl⟩
 | iB c ok z=>
   obtain ⟨t,x,i,kt,et,rfl,rfl,hu,hk1,hz⟩:=vS hc
   obtain ⟨s,k,kvs,r,rfl,hs,hf,rfl⟩:=iN h
   obtain ⟨x1,x2,e,h1,h2⟩:=dW (by simpa using hr)
   cases e
   simp only [aE] at h1 h2
   obtain ⟨b,hp,hv⟩:=h1
   obtain ⟨b',hp',hblk,_⟩:=hi.dN _ _ hs
   rw [hp] at hp';cases hp'
   obtain ⟨_,o,hh,hold⟩:=hblk
   rcases hold with ⟨_,_,_,_,_,_,_,hbad⟩ | ⟨es,clock,kvs',rfl,e,hm⟩
   · exact absurd (ql hbad) (by simp [cR])
   · cases e
     obtain ⟨zv,hz1,hz2⟩:=yE (P:=P) (w:=w) (K:=G.K) hz
     obtain ⟨d,hd⟩:=mU hk1
     have hget:(getObj b.1).run P w=.ok (.map es clock) w:=by simp [getObj,Sem.run,hh]
     have key:∃u,(Instr.lookup t (a.eval x) (a.eval i) ok).run P w=.ok u w∧aE (num ns) G (il ok z r) u:=by
       rcases oS hk1 hd h2 0 hm hf with ⟨rfl,hfn⟩ | ⟨p,v,j,rfl,hfn,hpv⟩
       · refine ⟨if ok then .tuple #[zv,.bool false] else zv,?_,?_⟩
         · rw [hv]
           simp only [Instr.lookup,Sem.run_bind,run_underlying hu,Result.andThen_ok,hget,Sem.run_pure,gp hk1,i4 hd hfn,hz1]
         · unfold il
           cases ok
           · simpa [aE] using hz2
           · simp only [if_true,aE]
             exact ⟨[zv,.bool false],by simp,by simp only [aB,aE];exact ⟨_,_,rfl,by simpa using hz2,_,_,rfl,eT.2 rfl,rfl⟩⟩
       · refine ⟨if ok then .tuple #[v,.bool true] else v,?_,?_⟩
         · rw [hv]
           simp only [Instr.lookup,Sem.run_bind,run_underlying hu,Result.andThen_ok,hget,Sem.run_pure,gp hk1,i4 hd hfn]
         · unfold il
           cases ok
           · simpa [aE] using hpv
           · simp only [if_true,aE]
             exact ⟨[v,.bool true],by simp,by simp only [aB,aE];exact ⟨_,_,rfl,by simpa using hpv,_,_,rfl,eT.2 rfl,rfl⟩⟩
     obtain ⟨u,g1,g2⟩:=key
     exact df (s:=Instr.lookup t (a.eval x) (a.eval i) ok) (v:=u) (w':=w) rfl g1 g2 (by simpa [fc] using hi) G.le_refl (cu.refl G w)
 | mM c=>
   obtain ⟨t,m,i,x,kt,et,hop,rfl,hu,hk1⟩:=yJ hc
   obtain ⟨s,k,v,kvs,p,kvs',rfl,hs,hfz,hput,rfl⟩:=lj h
   obtain ⟨x1,x2,x3,e,h1,h2,h3⟩:=oX (by simpa using hr)
   cases e
   have h3:=lf hfz h3
   simp only [aE] at h1 h2
   obtain ⟨b,hp,hv⟩:=h1
   obtain ⟨b',hp',hblk,_⟩:=hi.dN _ _ hs
   rw [hp] at hp';cases hp'
   obtain ⟨_,o,hh,hold⟩:=hblk
   rcases hold with ⟨_,_,_,_,_,_,_,hbad⟩ | ⟨es,clock,kvs0,rfl,e,hm⟩
   · exact absurd (ql hbad) (by simp [cR])
   · cases e
     obtain ⟨d,hd⟩:=mU hk1
     obtain ⟨es',clock',hrun,hm'⟩:=rY (P:=P) (w:=w) hu hk1 hd hh h2 h3 hm hput
     obtain ⟨g1,g2⟩:=hi.F' (es:=es') (clock:=clock') hs hp hm'
     have:(execOp a.eval ⟨dst,op,type,pos,after,guard⟩).run P w=.ok .skip (w.putObj b.1 (.map es' clock')):=by
       rcases hop with rfl | rfl<;>simp [execOp,hv,hrun]
     exact ⟨.skip,undef,_,G,this,.inr ⟨rfl,rfl⟩,by simp [aE],by simpa [AK.key,fp] using g1,G.le_refl,g2⟩
 | bl key off sz ag=>
   obtain ⟨t,tx,rfl,rfl,hsz,hag⟩:=vN hc
   obtain ⟨cs,x,rfl,hcs,hx,rfl⟩:=gP h
   simp only [AK.key,Option.bind_some] at hcs
   obtain ⟨x',e,h1⟩:=cN (by simpa using hr)
   cases e
   simp only [aE] at h1
   obtain ⟨b,hp,hv⟩:=h1
   obtain ⟨b',hp',hblk,_⟩:=hi.da _ _ hcs
   rw [hp] at hp';cases hp'
   obtain ⟨_,c,ty,hh,hrel⟩:=hblk
   obtain ⟨u,g1,g2⟩:=iu (w:=w) hsz hag hx hrel (jh hh)
   refine df (s:=Instr.loadAt t (a.eval (.tmp tx))) (v:=u) (w':=w) rfl ?_ g2 (by simpa [fc] using hi) G.le_refl (cu.refl G w)
   rw [hv];simp [Instr.loadAt,Instr.sureAddr,g1]
 | a6 sz ag=>
   obtain ⟨t,tx,rfl,rfl,hsz,hag⟩:=vO hc
   obtain ⟨p,x,rfl,rfl,hor⟩:=l9 h
   obtain ⟨x',e,h1⟩:=cN (by simpa using hr)
   cases e
   rcases hor with ⟨cs,rfl,hx⟩ | ⟨s,off,cs,rfl,hcs,hx⟩
   · simp only [aE] at h1
     obtain ⟨b,o,vs,hv,ha,hrl⟩:=h1
     obtain ⟨u,g1,g2⟩:=lM (ns:=ns) (w:=w) hsz hag hx hrl (fun j v hj=>hi.known _ _ _ (ha j v hj))
     refine df (s:=Instr.loadAt t (a.eval (.tmp tx))) (v:=u) (w':=w) rfl ?_ g2 (by simpa [fc] using hi) G.le_refl (cu.refl G w)
     rw [hv];simp [Instr.loadAt,Instr.sureAddr,g1]
   · obtain ⟨hmb,hx⟩:=hx
     simp only [aE] at h1
     obtain ⟨b,hp,hv⟩:=h1
     obtain ⟨b',hp',hblk,_⟩:=hi.dN _ _ hcs
     rw [hp] at hp';cases hp'
     obtain ⟨_,c,ty,vs,suf,hh,_,hsp,hrel⟩:=hblk.cells hmb
     obtain ⟨u,g1,g2⟩:=iu (w:=w) hsz hag hx hrel (mR hh hsp)
     refine df (s:=Instr.loadAt t (a.eval (.tmp tx))) (v:=u) (w':=w) rfl ?_ g2 (by simpa [fc] using hi) G.le_refl (cu.refl G w)
     rw [hv];simp [Instr.loadAt,Instr.sureAddr,g1]
 | dc key off sz=>
   obtain ⟨t,tx,v,rfl,rfl,hsz⟩:=tU hc
   obtain ⟨cs,x,rfl,hcs,hl,hlf,hle,rfl⟩:=gZ h
   simp only [AK.key,Option.bind_some] at hcs
   obtain ⟨x1,x2,e,h1,h2⟩:=dW (by simpa using hr)
   cases e
   simp only [aE] at h1
   obtain ⟨b,hp,hv⟩:=h1
   obtain ⟨b',hp',hblk,hcl⟩:=hi.da _ _ hcs
   rw [hp] at hp';cases hp'
   obtain ⟨_,c,ty,hh,hrel⟩:=hblk
   have hcells:=h2.cells hlf
   have hcsz:(a.eval v).cells.size=sz:=by have:=hcells.length;simp at this;omega
   have hsize:=hrel.length
   simp at hsize
   have hrun:=mV (P:=P) (w:=w) hsz hcsz hh (off:=off) (by omega) (jF hcells hlf)
   obtain ⟨g1,g2⟩:=hi.CL (cells':=bA cs off (br x)) hcs hp (c':=(c.toList.take off++(a.eval v).cells.toList++c.toList.drop (off+(a.eval v).cells.toList.length)).toArray)
     (by simpa using gn off hrel hcells) (iv hcl hlf)
   refine ⟨.skip,undef,_,G,?_,.inr ⟨rfl,rfl⟩,by simp [aE],g1,G.le_refl,g2⟩
   simp [execOp,hv,Instr.storeAt,Instr.sureAddr,hrun]
 | cz sz=>
   obtain ⟨t,tx,v,rfl,rfl,hsz⟩:=tV hc
   obtain ⟨s,off,x,cs,rfl,hcs,hmb,hl,hle,hlf,hrf,rfl⟩:=i_ h
   obtain ⟨x1,x2,e,h1,h2⟩:=dW (by simpa using hr)
   cases e
   simp only [aE] at h1
   obtain ⟨b,hp,hv⟩:=h1
   obtain ⟨b',hp',hblk,hcl,hcr⟩:=hi.dN _ _ hcs
   rw [hp] at hp';cases hp'
   obtain ⟨_,c,ty,vs,suf,hh,hcz,hsp,hrel⟩:=hblk.cells hmb
   have hcells:=o6 h2 (lg hlf)
   have hcsz:(a.eval v).cells.size=sz:=by have:=hcells.length;simp at this;omega
   have hsize:=hrel.length
   have hcl2:c.size=vs.length+suf.length:=by rw [←Array.length_toList,hsp,List.length_append]
   have hnl:(a.eval v).cells.toList.length=sz:=by simpa using hcsz
   have hrun:=mV (P:=P) (w:=w) hsz hcsz hh (off:=off) (by omega) (jF hcells (lg hlf))
   obtain ⟨g1,g2⟩:=hi.qt (cells':=bA cs off (cp x)) hcs hp hh (c':=(c.toList.take off++(a.eval v).cells.toList++c.toList.drop (off+(a.eval v).cells.toList.length)).toArray)
     (suf:=suf) (vs:=vs.take off++(a.eval v).cells.toList++vs.drop (off+(a.eval v).cells.toList.length))
     (by rw [←hcz];simp;omega)
     (by
       show c.toList.take off++(a.eval v).cells.toList++c.toList.drop (off+(a.eval v).cells.toList.length)=_
       rw [hsp,List.take_append_of_le_length (by omega),List.drop_append_of_le_length (by omega)]
       simp [List.append_assoc])
     (gn off hrel hcells) (iv hcl hlf) (iv hcr hrf)
   refine ⟨.skip,undef,_,G,?_,.inr ⟨rfl,rfl⟩,by simp [aE],by simpa [AK.key,fp] using g1,G.le_refl,g2⟩
   simp [execOp,hv,Instr.storeAt,Instr.sureAddr,hrun]
 | alloc key z=>
   obtain ⟨t,rfl,rfl,hz,rfl⟩:=vP hc
   obtain ⟨rfl,hcs,rfl⟩:=iM h
   simp only [AK.key,Option.bind_some] at hcs
   obtain ⟨zv,hz1,hz2⟩:=gO (P:=P) (w:=w) hz
   obtain ⟨zr,zl⟩:=gT (G:=G) (ρ:=num ns) hz2
   obtain ⟨g1,g2,g3⟩:=hi.sL (c:=zv.cells) t hcs zr zl
   refine df (s:=Instr.alloc t true (.tuple #[])) (v:=.pointer (some ⟨w.heap.size,0,none⟩)) rfl ?_ ?_ g1 g2 g3
   · simp only [Instr.alloc,Sem.run_bind,hz1,Result.andThen_ok,jG,Sem.run_pure]
   · simp only [aE];exact ⟨_,by simp [Gh.dR],rfl⟩
 | box key sz=>
   obtain ⟨t,y,rfl,rfl,hsz,rfl⟩:=CR hc
   obtain ⟨x,rfl,hcs,hl,hlf,rfl⟩:=kB h
   simp only [AK.key,Option.bind_some] at hcs
   obtain ⟨x',e,h1⟩:=cN (by simpa using hr)
   cases e
   have hcells:=h1.cells hlf
   obtain ⟨g1,g2,g3⟩:=hi.sL (c:=(a.eval y).cells) t hcs hcells hlf
   refine df (s:=Instr.box t (a.eval y)) (v:=.pointer (some ⟨w.heap.size,0,none⟩)) rfl ?_ ?_ g1 g2 g3
   · simp only [Instr.box,Sem.run_bind,jG,Result.andThen_ok,Sem.run_pure]
   · simp only [aE];exact ⟨_,by simp [Gh.dR],rfl⟩
 | ia z=>
   obtain ⟨t,rfl,rfl,hz⟩:=tW hc
   obtain ⟨rfl,rfl⟩:=ja h
   obtain ⟨zv,hz1,hz2⟩:=gO (P:=P) (w:=w) hz
   obtain ⟨zr,zl⟩:=gT (G:=G) (ρ:=num ns) hz2
   obtain ⟨g1,g2,g3⟩:=hi.qu (c:=zv.cells) t zr zl (CP _ z)
   refine df (s:=Instr.alloc t true (.tuple #[])) (v:=.pointer (some ⟨w.heap.size,0,none⟩)) rfl ?_ ?_ g1 g2 g3
   · simp only [Instr.alloc,Sem.run_bind,hz1,Result.andThen_ok,jG,Sem.run_pure]
   · simp only [aE];exact ⟨(w.heap.size,zv.cells.size),by simp [Gh.de],rfl⟩
 | l4 sz=>
   obtain ⟨t,y,rfl,rfl,hsz⟩:=yI hc
   obtain ⟨x,rfl,hl,hlf,hrf,rfl⟩:=lh h
   obtain ⟨x',e,h1⟩:=cN (by simpa using hr)
   cases e
   have hcells:=o6 h1 (lg hlf)
   obtain ⟨g1,g2,g3⟩:=hi.qu (c:=(a.eval y).cells) t hcells hlf (jJ (Nat.le_succ _) hrf)
   refine df (s:=Instr.box t (a.eval y)) (v:=.pointer (some ⟨w.heap.size,0,none⟩)) rfl ?_ ?_ g1 g2 g3
   · simp only [Instr.box,Sem.run_bind,jG,Result.andThen_ok,Sem.run_pure]
   · simp only [aE];exact ⟨(w.heap.size,(a.eval y).cells.size),by simp [Gh.de],rfl⟩
 | jm sz by_ ag z=>
   obtain ⟨t,e,l,c,rfl,rfl,hu,hsz,hby,hz,hzl,h0⟩:=vQ hc
   obtain ⟨k,k',n,rfl,h1,h2,h3,_,rfl⟩:=jK h
   obtain ⟨x1,x2,e',r1,r2⟩:=dW (by simpa using hr)
   cases e'
   obtain ⟨v,w',G',g1,g2,g3,g4,g5⟩:=vL (k:=k) (k':=k') (ag:=ag) hu hsz hby hz hzl h0 h1 h2 h3 hi
   refine df (s:=Instr.makeSlice t (a.eval l) (a.eval c)) rfl ?_ g2 g3 g4 g5
   rw [oZ r1,oZ r2];exact g1
 | append sz by_=>
   obtain ⟨c,rfl⟩:=tX hc
   obtain ⟨x,y,t,e,t1,e1,z,hcal,hargs,rfl,h0,h1,hu,hu1,hsz,hby,hz,hzl,hs0,hb0⟩:=yF hc
   obtain ⟨s,x',y',ts,rfl,happ,rfl⟩:=jb h
   obtain ⟨x1,x2,e',r1,r2⟩:=dW (by simpa using hr)
   cases e'
   obtain ⟨v,w',G',g1,g2,g3,g4,g5⟩:=tS (type:=type) h0 h1 hu hu1 hsz hby hz hzl hb0 r1 r2 hi happ
   refine df (s:=Builtin.append_ c.argTypes type #[a.eval x,a.eval y]) ?_ g1 g2 g3 g4 g5
   obtain ⟨callee,cargs,ctypes⟩:=c
   simp only at hcal hargs
   subst hcal;subst hargs
   simp [execOp,resolve,invoke,builtin]
 | cZ sz by_ ag=>
   obtain ⟨c,rfl⟩:=r5 hc
   obtain ⟨x,y,t,e,t1,e1,z,hcal,hargs,rfl,h0,h1,hu,hu1,hsz,hby,hz,hzl,hs0,hb0⟩:=vK hc
   obtain ⟨s,x',xs,y',sh',rfl,hxs,hhx,happ,rfl⟩:=jM h
   obtain ⟨x1,x2,e',r1,r2⟩:=dW (by simpa using hr)
   cases e'
   obtain ⟨v,w',G',g1,g2,g3,g4,g5⟩:=rZ (type:=type) h0 h1 hu hu1 hsz hby hz hzl hb0 r1 r2 hi hxs hhx happ
   refine df (s:=Builtin.append_ c.argTypes type #[a.eval x,a.eval y]) ?_ g1 g2 g3 g4 g5
   obtain ⟨callee,cargs,ctypes⟩:=c
   simp only at hcal hargs
   subst hcal;subst hargs
   simp [execOp,resolve,invoke,builtin]
 | ib sz z=>
   obtain ⟨c,rfl⟩:=tY hc
   obtain ⟨x,t,e,hcal,hargs,rfl,h0,hu,hsz,hz,hzl,hs0⟩:=yH hc
   obtain ⟨x',sh',rfl,hcl,rfl⟩:=o5 h
   obtain ⟨x1,e',r1⟩:=cN (by simpa using hr)
   cases e'
   obtain ⟨w',g1,g2,g3⟩:=tT (type:=type) h0 hu hz hzl hs0 r1 hi hcl
   refine df (s:=Builtin.clear_ c.argTypes type #[a.eval x]) (v:=.tuple #[]) ?_ g1 (by simp only [aE];exact ⟨[],rfl,by simp [aB]⟩) g2 G.le_refl g3
   obtain ⟨callee,cargs,ctypes⟩:=c
   simp only at hcal hargs
   subst hcal;subst hargs
   simp [execOp,resolve,invoke,builtin]
end
end Go.Ab
