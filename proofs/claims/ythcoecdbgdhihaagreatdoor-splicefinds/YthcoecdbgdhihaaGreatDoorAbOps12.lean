import Derived.Test.YthcoecdbgdhihaaGreatDoorAbOps11
/-
  Each operation that calls nothing.
-/
set_option linter.unusedVariables false
set_option linter.unusedSimpArgs false
set_option linter.unnecessarySimpa false
set_option maxRecDepth 100000
set_option maxHeartbeats 8000000
namespace Go.Ab
section
variable {P:Program} {ns:Names} {G:Gh} {w:World}
def AK.calls:AK→Bool
 | .aq _ | .dK _ | .aI .. | .kT _ | .fU | .dw | .clone .. | .gF ..=>true
 | _=>false
theorem fu {mem:List (Nat×List AV)} (k:Option Nat):eV mem k none=mem:=by cases k<;>rfl
theorem pc {v:AV} {rv:Value} (h:aC (num ns) G v rv) (hl:(cV v).all bp=true):az (num ns) G (cV v) rv.cells.toList:=by
 cases v with
 | bN l=>exact aC.cells (x:=.bN l) h hl
 | own l τ=>exact aC.cells (x:=.own l τ) h hl
 | _=>
   simp only [cV] at hl ⊢
   split
   · rename_i p hp
     simp only [hp] at hl
     exact aC.cells (by simp only [aC];exact na hp h) hl
   · rename_i hp
     simp only [hp] at hl
     exact h.cells hl
theorem dh {mem:List (Nat×List AV)} {sh:Sh} {ah:aN} {s:Sem Value} {s':Sem Next} {x:AV} {v:Value} {w':World} {G':Gh} (hs:s'=(do pure (.value (←s)))) (h1:s.run P w=.ok v w') (h2:aC (num ns) G' x v)
   (h3:Inv (num ns) G' w' mem sh ah) (h4:G.le G') (h5:cp G w G' w'):Nj ns P G w mem sh ah s' x:=
 ⟨.value v,v,w',G',by rw [hs];simp only [Sem.run_bind,h1,Result.andThen_ok,Sem.run_pure],.inl rfl,h2,h3,h4,h5⟩
theorem pd {A:kS} {o:Oper} {k:AK} {args:List Operand} {orc:ek} (hc:ck P ns A o.dst o.op=some (k,args)) (hk:k.calls=false) {a:Act} {vals:List AV} {out:Out}
   {mem:List (Nat×List AV)} {sh:Sh} {ah:aN} (hr:az (num ns) G vals (args.map a.eval)) (hi:Inv (num ns) G w mem sh ah)
   (h:exec orc k vals (k.key.bind (look mem)) sh ah=some out) :
   Nj ns P G w (eV mem k.key out.cells) out.sh out.ah (execOp a.eval o) out.val:=by
 obtain ⟨dst,op,type,pos,after,guard⟩:=o
 cases k with
 | v vo=>
   simp only [exec,Option.map_eq_some_iff] at h
   obtain ⟨x,h1,rfl⟩:=h
   obtain ⟨v,w',G',g1,g2,g3,g4,g5⟩:=wz hc hr hi h1
   exact ⟨.value v,v,w',G',g1,.inl rfl,g2,by simpa [fu] using g3,g4,g5⟩
 | aq g=>simp [AK.calls] at hk
 | dK g=>simp [AK.calls] at hk
 | aI g own=>simp [AK.calls] at hk
 | kT g=>simp [AK.calls] at hk
 | fU=>simp [AK.calls] at hk
 | dw=>simp [AK.calls] at hk
 | clone sz by_=>simp [AK.calls] at hk
 | gF sz by_ ag=>simp [AK.calls] at hk
 | BT=>first | (simp [exec] at h;done) | (simp [exec] at e;done) | (simp [exec];done)
 | qu c ok z=>first | (simp [exec] at h;done) | (simp [exec] at e;done) | (simp [exec];done)
 | IP c=>first | (simp [exec] at h;done) | (simp [exec] at e;done) | (simp [exec];done)
 | aS key off sz ag=>
   obtain ⟨t,tx,rfl,rfl,hsz,hag⟩:=wF hc
   obtain ⟨cs,x,rfl,hcs,hx,rfl⟩:=hU h
   simp only [AK.key,Option.bind_some] at hcs
   obtain ⟨x',e,h1⟩:=cL (by simpa using hr)
   cases e
   simp only [aC] at h1
   obtain ⟨b,hp,hv⟩:=h1
   obtain ⟨b',hp',hblk,_⟩:=hi.dk _ _ hcs
   rw [hp] at hp';cases hp'
   obtain ⟨_,c,ty,hh,hrel⟩:=hblk
   obtain ⟨u,g1,g2⟩:=fq (w:=w) hsz hag hx hrel (f_ hh)
   refine dh (s:=Instr.loadAt t (a.eval (.tmp tx))) (v:=u) (w':=w) rfl ?_ g2 (by simpa [fu] using hi) G.le_refl (cp.refl G w)
   rw [hv];simp [Instr.loadAt,Instr.sureAddr,g1]
 | bf sz ag=>
   obtain ⟨t,tx,rfl,rfl,hsz,hag⟩:=wG hc
   obtain ⟨p,x,rfl,rfl,hor⟩:=j8 h
   obtain ⟨x',e,h1⟩:=cL (by simpa using hr)
   cases e
   rcases hor with ⟨cs,rfl,hx⟩ | ⟨s,off,cs,rfl,hcs,hx⟩
   · simp only [aC] at h1
     obtain ⟨b,o,vs,hv,ha,hrl⟩:=h1
     obtain ⟨u,g1,g2⟩:=mi (ns:=ns) (w:=w) hsz hag hx hrl (fun j v hj=>hi.known _ _ _ (ha j v hj))
     refine dh (s:=Instr.loadAt t (a.eval (.tmp tx))) (v:=u) (w':=w) rfl ?_ g2 (by simpa [fu] using hi) G.le_refl (cp.refl G w)
     rw [hv];simp [Instr.loadAt,Instr.sureAddr,g1]
   · obtain ⟨hmb,hx⟩:=hx
     simp only [aC] at h1
     obtain ⟨b,hp,hv⟩:=h1
     obtain ⟨b',hp',hblk,_⟩:=hi.dM _ _ hcs
     rw [hp] at hp';cases hp'
     obtain ⟨_,c,ty,vs,suf,hh,_,hsp,hrel⟩:=hblk.cells hmb
     obtain ⟨u,g1,g2⟩:=fq (w:=w) hsz hag hx hrel (m9 hh hsp)
     refine dh (s:=Instr.loadAt t (a.eval (.tmp tx))) (v:=u) (w':=w) rfl ?_ g2 (by simpa [fu] using hi) G.le_refl (cp.refl G w)
     rw [hv];simp [Instr.loadAt,Instr.sureAddr,g1]
 | cR key off sz=>
   obtain ⟨t,tx,v,rfl,rfl,hsz⟩:=uJ hc
   obtain ⟨cs,x,rfl,hcs,hl,hlf,hle,rfl⟩:=iu h
   simp only [AK.key,Option.bind_some] at hcs
   obtain ⟨x1,x2,e,h1,h2⟩:=dT (by simpa using hr)
   cases e
   simp only [aC] at h1
   obtain ⟨b,hp,hv⟩:=h1
   obtain ⟨b',hp',hblk,hcl⟩:=hi.dk _ _ hcs
   rw [hp] at hp';cases hp'
   obtain ⟨_,c,ty,hh,hrel⟩:=hblk
   have hcells:=h2.cells hlf
   have hcsz:(a.eval v).cells.size=sz:=by have:=hcells.length;simp at this;omega
   have hsize:=hrel.length
   simp at hsize
   have hrun:=nd (P:=P) (w:=w) hsz hcsz hh (off:=off) (by omega) (jW hcells hlf)
   obtain ⟨g1,g2⟩:=hi.CX (cells':=bo cs off (bB x)) hcs hp (c':=(c.toList.take off++(a.eval v).cells.toList++c.toList.drop (off+(a.eval v).cells.toList.length)).toArray)
     (by simpa using ff off hrel hcells) (iJ hcl hlf)
   refine ⟨.skip,undef,_,G,?_,.inr ⟨rfl,rfl⟩,by simp [aC],g1,G.le_refl,g2⟩
   simp [execOp,hv,Instr.storeAt,Instr.sureAddr,hrun]
 | cb sz=>
   obtain ⟨t,tx,v,rfl,rfl,hsz⟩:=uK hc
   obtain ⟨s,off,x,cs,rfl,hcs,hmb,hl,hle,hlf,hrf,rfl⟩:=iv h
   obtain ⟨x1,x2,e,h1,h2⟩:=dT (by simpa using hr)
   cases e
   simp only [aC] at h1
   obtain ⟨b,hp,hv⟩:=h1
   obtain ⟨b',hp',hblk,hcl,hcr⟩:=hi.dM _ _ hcs
   rw [hp] at hp';cases hp'
   obtain ⟨_,c,ty,vs,suf,hh,hcz,hsp,hrel⟩:=hblk.cells hmb
   have hcells:=pc h2 (iL hlf)
   have hcsz:(a.eval v).cells.size=sz:=by have:=hcells.length;simp at this;omega
   have hsize:=hrel.length
   have hcl2:c.size=vs.length+suf.length:=by rw [←Array.length_toList,hsp,List.length_append]
   have hnl:(a.eval v).cells.toList.length=sz:=by simpa using hcsz
   have hrun:=nd (P:=P) (w:=w) hsz hcsz hh (off:=off) (by omega) (jW hcells (iL hlf))
   obtain ⟨g1,g2⟩:=hi.nc (cells':=bo cs off (cV x)) hcs hp hh (c':=(c.toList.take off++(a.eval v).cells.toList++c.toList.drop (off+(a.eval v).cells.toList.length)).toArray)
     (suf:=suf) (vs:=vs.take off++(a.eval v).cells.toList++vs.drop (off+(a.eval v).cells.toList.length))
     (by rw [←hcz];simp;omega)
     (by
       show c.toList.take off++(a.eval v).cells.toList++c.toList.drop (off+(a.eval v).cells.toList.length)=_
       rw [hsp,List.take_append_of_le_length (by omega),List.drop_append_of_le_length (by omega)]
       simp [List.append_assoc])
     (ff off hrel hcells) (iJ hcl hlf) (iJ hcr hrf)
   refine ⟨.skip,undef,_,G,?_,.inr ⟨rfl,rfl⟩,by simp [aC],by simpa [AK.key,eV] using g1,G.le_refl,g2⟩
   simp [execOp,hv,Instr.storeAt,Instr.sureAddr,hrun]
 | ux sz=>first | (simp [exec] at h;done) | (simp [exec] at e;done) | (simp [exec];done)
 | alloc key z=>
   obtain ⟨t,rfl,rfl,hz,rfl⟩:=wH hc
   obtain ⟨rfl,hcs,rfl⟩:=i_ h
   simp only [AK.key,Option.bind_some] at hcs
   obtain ⟨zv,hz1,hz2⟩:=gA (P:=P) (w:=w) hz
   obtain ⟨zr,zl⟩:=ie (G:=G) (ρ:=num ns) hz2
   obtain ⟨g1,g2,g3⟩:=hi.n_ (c:=zv.cells) t hcs zr zl
   refine dh (s:=Instr.alloc t true (.tuple #[])) (v:=.pointer (some ⟨w.heap.size,0,none⟩)) rfl ?_ ?_ g1 g2 g3
   · simp only [Instr.alloc,Sem.run_bind,hz1,Result.andThen_ok,g_,Sem.run_pure]
   · simp only [aC];exact ⟨_,by simp [Gh.dv],rfl⟩
 | box key sz=>
   obtain ⟨t,y,rfl,rfl,hsz,rfl⟩:=C4 hc
   obtain ⟨x,rfl,hcs,hl,hlf,rfl⟩:=lg h
   simp only [AK.key,Option.bind_some] at hcs
   obtain ⟨x',e,h1⟩:=cL (by simpa using hr)
   cases e
   have hcells:=h1.cells hlf
   obtain ⟨g1,g2,g3⟩:=hi.n_ (c:=(a.eval y).cells) t hcs hcells hlf
   refine dh (s:=Instr.box t (a.eval y)) (v:=.pointer (some ⟨w.heap.size,0,none⟩)) rfl ?_ ?_ g1 g2 g3
   · simp only [Instr.box,Sem.run_bind,g_,Result.andThen_ok,Sem.run_pure]
   · simp only [aC];exact ⟨_,by simp [Gh.dv],rfl⟩
 | iT z=>
   obtain ⟨t,rfl,rfl,hz⟩:=uL hc
   obtain ⟨rfl,rfl⟩:=jr h
   obtain ⟨zv,hz1,hz2⟩:=gA (P:=P) (w:=w) hz
   obtain ⟨zr,zl⟩:=ie (G:=G) (ρ:=num ns) hz2
   obtain ⟨g1,g2,g3⟩:=hi.qK (c:=zv.cells) t zr zl (C1 _ z)
   refine dh (s:=Instr.alloc t true (.tuple #[])) (v:=.pointer (some ⟨w.heap.size,0,none⟩)) rfl ?_ ?_ g1 g2 g3
   · simp only [Instr.alloc,Sem.run_bind,hz1,Result.andThen_ok,g_,Sem.run_pure]
   · simp only [aC];exact ⟨(w.heap.size,zv.cells.size),by simp [Gh.dN],rfl⟩
 | me sz=>
   obtain ⟨t,y,rfl,rfl,hsz⟩:=zk hc
   obtain ⟨x,rfl,hl,hlf,hrf,rfl⟩:=lO h
   obtain ⟨x',e,h1⟩:=cL (by simpa using hr)
   cases e
   have hcells:=pc h1 (iL hlf)
   obtain ⟨g1,g2,g3⟩:=hi.qK (c:=(a.eval y).cells) t hcells hlf (jZ (Nat.le_succ _) hrf)
   refine dh (s:=Instr.box t (a.eval y)) (v:=.pointer (some ⟨w.heap.size,0,none⟩)) rfl ?_ ?_ g1 g2 g3
   · simp only [Instr.box,Sem.run_bind,g_,Result.andThen_ok,Sem.run_pure]
   · simp only [aC];exact ⟨(w.heap.size,(a.eval y).cells.size),by simp [Gh.dN],rfl⟩
 | IN sz=>first | (simp [exec] at h;done) | (simp [exec] at e;done) | (simp [exec];done)
 | ik sz by_ ag z=>
   obtain ⟨t,e,l,c,rfl,rfl,hu,hsz,hby,hz,hzl,h0⟩:=wI hc
   obtain ⟨k,k',n,rfl,h1,h2,h3,_,rfl⟩:=j_ h
   obtain ⟨x1,x2,e',r1,r2⟩:=dT (by simpa using hr)
   cases e'
   obtain ⟨v,w',G',g1,g2,g3,g4,g5⟩:=wB (k:=k) (k':=k') (ag:=ag) hu hsz hby hz hzl h0 h1 h2 h3 hi
   refine dh (s:=Instr.makeSlice t (a.eval l) (a.eval c)) rfl ?_ g2 g3 g4 g5
   rw [jq r1,jq r2];exact g1
 | iU d sz by_ z=>
   obtain ⟨t,e,l,c,rfl,rfl,hu,hsz,hby,hz,hzl,h0,rfl⟩:=wJ hc
   obtain ⟨k,k',n,rfl,h1,h2,h3,_,hcs,rfl⟩:=ja h
   simp only [AK.key,Option.bind_some] at hcs
   obtain ⟨x1,x2,e',r1,r2⟩:=dT (by simpa using hr)
   cases e'
   obtain ⟨v,w',G',g1,g2,g3,g4,g5⟩:=wC (k:=k) (k':=k') hu hsz hby hz hzl h0 h1 h2 h3 hi hcs
   refine dh (s:=Instr.makeSlice t (a.eval l) (a.eval c)) rfl ?_ g2 g3 g4 g5
   rw [jq r1,jq r2];exact g1
 | append sz by_=>
   obtain ⟨c,rfl⟩:=uM hc
   obtain ⟨x,y,t,e,t1,e1,z,hcal,hargs,rfl,h0,h1,hu,hu1,hsz,hby,hz,hzl,hs0,hb0⟩:=zh hc
   obtain ⟨s,x',y',ts,rfl,happ,rfl⟩:=js h
   obtain ⟨x1,x2,e',r1,r2⟩:=dT (by simpa using hr)
   cases e'
   obtain ⟨v,w',G',g1,g2,g3,g4,g5⟩:=uG (type:=type) h0 h1 hu hu1 hsz hby hz hzl hb0 r1 r2 hi happ
   refine dh (s:=Builtin.append_ c.argTypes type #[a.eval x,a.eval y]) ?_ g1 g2 g3 g4 g5
   obtain ⟨callee,cargs,ctypes⟩:=c
   simp only at hcal hargs
   subst hcal;subst hargs
   simp [execOp,resolve,invoke,builtin]
 | db sz by_ ag=>
   obtain ⟨c,rfl⟩:=sM hc
   obtain ⟨x,y,t,e,t1,e1,z,hcal,hargs,rfl,h0,h1,hu,hu1,hsz,hby,hz,hzl,hs0,hb0⟩:=wA hc
   obtain ⟨s,x',xs,y',sh',rfl,hxs,hhx,happ,rfl⟩:=kb h
   obtain ⟨x1,x2,e',r1,r2⟩:=dT (by simpa using hr)
   cases e'
   obtain ⟨v,w',G',g1,g2,g3,g4,g5⟩:=sL (type:=type) h0 h1 hu hu1 hsz hby hz hzl hb0 r1 r2 hi hxs hhx happ
   refine dh (s:=Builtin.append_ c.argTypes type #[a.eval x,a.eval y]) ?_ g1 g2 g3 g4 g5
   obtain ⟨callee,cargs,ctypes⟩:=c
   simp only at hcal hargs
   subst hcal;subst hargs
   simp [execOp,resolve,invoke,builtin]
 | m5 sz by_=>first | (simp [exec] at h;done) | (simp [exec] at e;done) | (simp [exec];done)
 | jk sz=>
   obtain ⟨c,rfl⟩:=wK hc
   obtain ⟨x,y,t,e,t1,e1,hcal,hargs,rfl,h0,h1,hu,hu1,hsz⟩:=C3 hc
   obtain ⟨x',y',xs,k,sh',rfl,hxs,hcp,rfl⟩:=ka h
   obtain ⟨x1,x2,e',r1,r2⟩:=dT (by simpa using hr)
   cases e'
   obtain ⟨w',g1,g2,g3⟩:=wE (type:=type) h0 hu hsz r1 r2 hi hxs hcp
   refine dh (s:=Builtin.copy_ c.argTypes type #[a.eval x,a.eval y]) (v:=.int .i64 k) ?_ g1 (by simp only [aC];exact cA.2 rfl) g2 G.le_refl g3
   obtain ⟨callee,cargs,ctypes⟩:=c
   simp only at hcal hargs
   subst hcal;subst hargs
   simp [execOp,resolve,invoke,builtin]
 | iA sz z=>
   obtain ⟨c,rfl⟩:=uN hc
   obtain ⟨x,t,e,hcal,hargs,rfl,h0,hu,hsz,hz,hzl,hs0⟩:=zj hc
   obtain ⟨x',sh',rfl,hcl,rfl⟩:=pb h
   obtain ⟨x1,e',r1⟩:=cL (by simpa using hr)
   cases e'
   obtain ⟨w',g1,g2,g3⟩:=uI (type:=type) h0 hu hz hzl hs0 r1 hi hcl
   refine dh (s:=Builtin.clear_ c.argTypes type #[a.eval x]) (v:=.tuple #[]) ?_ g1 (by simp only [aC];exact ⟨[],rfl,by simp [az]⟩) g2 G.le_refl g3
   obtain ⟨callee,cargs,ctypes⟩:=c
   simp only at hcal hargs
   subst hcal;subst hargs
   simp [execOp,resolve,invoke,builtin]
end
end Go.Ab
