import Derived.Test.YthcoecdbgdhihaaGreatDoorAbOps11
/-
  Each operation that calls nothing.
-/
set_option linter.unusedVariables false
set_option linter.unusedSimpArgs false
set_option linter.unnecessarySimpa false
set_option maxRecDepth 100000
set_option maxHeartbeats 8000000
namespace Go.Ab
section
variable {P:Program} {ns:Names} {G:Gh} {w:World}
def AK.calls:AK→Bool
 | .aq _ | .dN _ | .aJ .. | .lg _ | .eV | .dE | .clone .. | .gJ ..=>true
 | _=>false
theorem fJ {mem:List (Nat×List AV)} (k:Option Nat):e_ mem k none=mem:=by cases k<;>rfl
theorem pH {v:AV} {rv:Value} (h:aC (num ns) G v rv) (hl:(cY v).all bp=true):aB (num ns) G (cY v) rv.cells.toList:=by
 cases v with
 | bM l=>exact aC.cells (x:=.bM l) h hl
 | own l τ=>exact aC.cells (x:=.own l τ) h hl
 | _=>
   simp only [cY] at hl ⊢;split
   · rename_i p hp;simp only [hp] at hl;exact aC.cells (by simp only [aC];exact nv hp h) hl
   · rename_i hp;simp only [hp] at hl;exact h.cells hl
theorem di {mem:List (Nat×List AV)} {sh:Sh} {ah:aN} {s:Sem Value} {s':Sem Next} {x:AV} {v:Value} {w':World} {G':Gh} (hs:s'=(do pure (.value (←s)))) (h1:s.run P w=.ok v w') (h2:aC (num ns) G' x v)
   (h3:Inv (num ns) G' w' mem sh ah) (h4:G.le G') (h5:cq G w G' w'):Oh ns P G w mem sh ah s' x:=
 ⟨.value v,v,w',G',by rw [hs];simp only [Sem.run_bind,h1,Result.andThen_ok,Sem.run_pure],.inl rfl,h2,h3,h4,h5⟩
theorem pI {A:lf} {o:Oper} {k:AK} {args:List Operand} {orc:ep} (hc:cm P ns A o.dst o.op=some (k,args)) (hk:k.calls=false) {a:Act} {vals:List AV} {out:Out}
   {mem:List (Nat×List AV)} {sh:Sh} {ah:aN} (hr:aB (num ns) G vals (args.map a.eval)) (hi:Inv (num ns) G w mem sh ah)
   (h:exec orc k vals (k.key.bind (look mem)) sh ah=some out) :
   Oh ns P G w (e_ mem k.key out.cells) out.sh out.ah (execOp a.eval o) out.val:=by
 obtain ⟨dst,op,type,pos,after,guard⟩:=o;cases k with
 | v vo=>
   simp only [exec,Option.map_eq_some_iff] at h;obtain ⟨x,h1,rfl⟩:=h;obtain ⟨v,w',G',g1,g2,g3,g4,g5⟩:=w8 hc hr hi h1;exact ⟨.value v,v,w',G',g1,.inl rfl,g2,by simpa [fJ] using g3,g4,g5⟩
 | aq g=>simp [AK.calls] at hk
 | dN g=>simp [AK.calls] at hk
 | aJ g own=>simp [AK.calls] at hk
 | lg g=>simp [AK.calls] at hk
 | eV=>simp [AK.calls] at hk
 | dE=>simp [AK.calls] at hk
 | clone sz by_=>simp [AK.calls] at hk
 | gJ sz by_ ag=>simp [AK.calls] at hk
 | Cq=>first | (simp [exec] at h;done) | (simp [exec] at e;done) | (simp [exec];done)
 | qM c ok z=>first | (simp [exec] at h;done) | (simp [exec] at e;done) | (simp [exec];done)
 | JF c=>first | (simp [exec] at h;done) | (simp [exec] at e;done) | (simp [exec];done)
 | aU key off sz ag=>
   obtain ⟨t,tx,rfl,rfl,hsz,hag⟩:=xh hc;obtain ⟨cs,x,rfl,hcs,hx,rfl⟩:=ib h;simp only [AK.key,Option.bind_some] at hcs;obtain ⟨x',e,h1⟩:=cM (by simpa using hr);cases e;simp only [aC] at h1;obtain ⟨b,hp,hv⟩:=h1;obtain ⟨b',hp',hblk,_⟩:=hi.dq _ _ hcs;rw [hp] at hp';cases hp';obtain ⟨_,c,ty,hh,hrel⟩:=hblk;obtain ⟨u,g1,g2⟩:=fH (w:=w) hsz hag hx hrel (gj hh);refine di (s:=Instr.loadAt t (a.eval (.tmp tx))) (v:=u) (w':=w) rfl ?_ g2 (by simpa [fJ] using hi) G.le_refl (cq.refl G w);rw [hv];simp [Instr.loadAt,Instr.sureAddr,g1]
 | bg sz ag=>
   obtain ⟨t,tx,rfl,rfl,hsz,hag⟩:=xj hc;obtain ⟨p,x,rfl,rfl,hor⟩:=kg h;obtain ⟨x',e,h1⟩:=cM (by simpa using hr);cases e;rcases hor with ⟨cs,rfl,hx⟩ | ⟨s,off,cs,rfl,hcs,hx⟩
   · simp only [aC] at h1;obtain ⟨b,o,vs,hv,ha,hrl⟩:=h1;obtain ⟨u,g1,g2⟩:=mF (ns:=ns) (w:=w) hsz hag hx hrl (fun j v hj=>hi.known _ _ _ (ha j v hj));refine di (s:=Instr.loadAt t (a.eval (.tmp tx))) (v:=u) (w':=w) rfl ?_ g2 (by simpa [fJ] using hi) G.le_refl (cq.refl G w);rw [hv];simp [Instr.loadAt,Instr.sureAddr,g1]
   · obtain ⟨hmb,hx⟩:=hx;simp only [aC] at h1;obtain ⟨b,hp,hv⟩:=h1;obtain ⟨b',hp',hblk,_⟩:=hi.dP _ _ hcs;rw [hp] at hp';cases hp';obtain ⟨_,c,ty,vs,suf,hh,_,hsp,hrel⟩:=hblk.cells hmb;obtain ⟨u,g1,g2⟩:=fH (w:=w) hsz hag hx hrel (nr hh hsp);refine di (s:=Instr.loadAt t (a.eval (.tmp tx))) (v:=u) (w':=w) rfl ?_ g2 (by simpa [fJ] using hi) G.le_refl (cq.refl G w);rw [hv];simp [Instr.loadAt,Instr.sureAddr,g1]
 | cV key off sz=>
   obtain ⟨t,tx,v,rfl,rfl,hsz⟩:=vg hc;obtain ⟨cs,x,rfl,hcs,hl,hlf,hle,rfl⟩:=iy h;simp only [AK.key,Option.bind_some] at hcs;obtain ⟨x1,x2,e,h1,h2⟩:=dW (by simpa using hr);cases e;simp only [aC] at h1;obtain ⟨b,hp,hv⟩:=h1;obtain ⟨b',hp',hblk,hcl⟩:=hi.dq _ _ hcs;rw [hp] at hp';cases hp';obtain ⟨_,c,ty,hh,hrel⟩:=hblk;have hcells:=h2.cells hlf;have hcsz:(a.eval v).cells.size=sz:=by have:=hcells.length;simp at this;omega
   have hsize:=hrel.length;simp at hsize;have hrun:=nB (P:=P) (w:=w) hsz hcsz hh (off:=off) (by omega) (ka hcells hlf);obtain ⟨g1,g2⟩:=hi.Dz (cells':=bn cs off (bF x)) hcs hp (c':=(c.toList.take off++(a.eval v).cells.toList++c.toList.drop (off+(a.eval v).cells.toList.length)).toArray)
     (by simpa using fy off hrel hcells) (iN hcl hlf)
   refine ⟨.skip,undef,_,G,?_,.inr ⟨rfl,rfl⟩,by simp [aC],g1,G.le_refl,g2⟩;simp [execOp,hv,Instr.storeAt,Instr.sureAddr,hrun]
 | cd sz=>
   obtain ⟨t,tx,v,rfl,rfl,hsz⟩:=vh hc;obtain ⟨s,off,x,cs,rfl,hcs,hmb,hl,hle,hlf,hrf,rfl⟩:=iz h;obtain ⟨x1,x2,e,h1,h2⟩:=dW (by simpa using hr);cases e;simp only [aC] at h1;obtain ⟨b,hp,hv⟩:=h1;obtain ⟨b',hp',hblk,hcl,hcr⟩:=hi.dP _ _ hcs;rw [hp] at hp';cases hp';obtain ⟨_,c,ty,vs,suf,hh,hcz,hsp,hrel⟩:=hblk.cells hmb;have hcells:=pH h2 (iP hlf);have hcsz:(a.eval v).cells.size=sz:=by have:=hcells.length;simp at this;omega
   have hsize:=hrel.length;have hcl2:c.size=vs.length+suf.length:=(by rw [←Array.length_toList,hsp,List.length_append]);have hnl:(a.eval v).cells.toList.length=sz:=(by simpa using hcsz);have hrun:=nB (P:=P) (w:=w) hsz hcsz hh (off:=off) (by omega) (ka hcells (iP hlf));obtain ⟨g1,g2⟩:=hi.nA (cells':=bn cs off (cY x)) hcs hp hh (c':=(c.toList.take off++(a.eval v).cells.toList++c.toList.drop (off+(a.eval v).cells.toList.length)).toArray)
     (suf:=suf) (vs:=vs.take off++(a.eval v).cells.toList++vs.drop (off+(a.eval v).cells.toList.length))
     (by rw [←hcz];simp;omega)
     (by
       show c.toList.take off++(a.eval v).cells.toList++c.toList.drop (off+(a.eval v).cells.toList.length)=_;rw [hsp,List.take_append_of_le_length (by omega),List.drop_append_of_le_length (by omega)];simp [List.append_assoc])
     (fy off hrel hcells) (iN hcl hlf) (iN hcr hrf)
   refine ⟨.skip,undef,_,G,?_,.inr ⟨rfl,rfl⟩,by simp [aC],by simpa [AK.key,e_] using g1,G.le_refl,g2⟩;simp [execOp,hv,Instr.storeAt,Instr.sureAddr,hrun]
 | uT sz=>first | (simp [exec] at h;done) | (simp [exec] at e;done) | (simp [exec];done)
 | alloc key z=>
   obtain ⟨t,rfl,rfl,hz,rfl⟩:=xl hc;obtain ⟨rfl,hcs,rfl⟩:=jd h;simp only [AK.key,Option.bind_some] at hcs;obtain ⟨zv,hz1,hz2⟩:=gE (P:=P) (w:=w) hz;obtain ⟨zr,zl⟩:=il (G:=G) (ρ:=num ns) hz2;obtain ⟨g1,g2,g3⟩:=hi.oF (c:=zv.cells) t hcs zr zl;refine di (s:=Instr.alloc t true (.tuple #[])) (v:=.pointer (some ⟨w.heap.size,0,none⟩)) rfl ?_ ?_ g1 g2 g3
   · simp only [Instr.alloc,Sem.run_bind,hz1,Result.andThen_ok,ia,Sem.run_pure]
   · simp only [aC];exact ⟨_,by simp [Gh.dD],rfl⟩
 | box key sz=>
   obtain ⟨t,y,rfl,rfl,hsz,rfl⟩:=DG hc;obtain ⟨x,rfl,hcs,hl,hlf,rfl⟩:=ly h;simp only [AK.key,Option.bind_some] at hcs;obtain ⟨x',e,h1⟩:=cM (by simpa using hr);cases e;have hcells:=h1.cells hlf;obtain ⟨g1,g2,g3⟩:=hi.oF (c:=(a.eval y).cells) t hcs hcells hlf;refine di (s:=Instr.box t (a.eval y)) (v:=.pointer (some ⟨w.heap.size,0,none⟩)) rfl ?_ ?_ g1 g2 g3
   · simp only [Instr.box,Sem.run_bind,ia,Result.andThen_ok,Sem.run_pure]
   · simp only [aC];exact ⟨_,by simp [Gh.dD],rfl⟩
 | iX z=>
   obtain ⟨t,rfl,rfl,hz⟩:=vi hc;obtain ⟨rfl,rfl⟩:=jx h;obtain ⟨zv,hz1,hz2⟩:=gE (P:=P) (w:=w) hz;obtain ⟨zr,zl⟩:=il (G:=G) (ρ:=num ns) hz2;obtain ⟨g1,g2,g3⟩:=hi.q_ (c:=zv.cells) t zr zl (DD _ z);refine di (s:=Instr.alloc t true (.tuple #[])) (v:=.pointer (some ⟨w.heap.size,0,none⟩)) rfl ?_ ?_ g1 g2 g3
   · simp only [Instr.alloc,Sem.run_bind,hz1,Result.andThen_ok,ia,Sem.run_pure]
   · simp only [aC];exact ⟨(w.heap.size,zv.cells.size),by simp [Gh.dQ],rfl⟩
 | mz sz=>
   obtain ⟨t,y,rfl,rfl,hsz⟩:=zX hc;obtain ⟨x,rfl,hl,hlf,hrf,rfl⟩:=l0 h;obtain ⟨x',e,h1⟩:=cM (by simpa using hr);cases e;have hcells:=pH h1 (iP hlf);obtain ⟨g1,g2,g3⟩:=hi.q_ (c:=(a.eval y).cells) t hcells hlf (kf (Nat.le_succ _) hrf);refine di (s:=Instr.box t (a.eval y)) (v:=.pointer (some ⟨w.heap.size,0,none⟩)) rfl ?_ ?_ g1 g2 g3
   · simp only [Instr.box,Sem.run_bind,ia,Result.andThen_ok,Sem.run_pure]
   · simp only [aC];exact ⟨(w.heap.size,(a.eval y).cells.size),by simp [Gh.dQ],rfl⟩
 | JE sz=>first | (simp [exec] at h;done) | (simp [exec] at e;done) | (simp [exec];done)
 | ir sz by_ ag z=>
   obtain ⟨t,e,l,c,rfl,rfl,hu,hsz,hby,hz,hzl,h0⟩:=xm hc;obtain ⟨k,k',n,rfl,h1,h2,h3,_,rfl⟩:=kh h;obtain ⟨x1,x2,e',r1,r2⟩:=dW (by simpa using hr);cases e';obtain ⟨v,w',G',g1,g2,g3,g4,g5⟩:=xa (k:=k) (k':=k') (ag:=ag) hu hsz hby hz hzl h0 h1 h2 h3 hi;refine di (s:=Instr.makeSlice t (a.eval l) (a.eval c)) rfl ?_ g2 g3 g4 g5;rw [jw r1,jw r2];exact g1
 | iY d sz by_ z=>
   obtain ⟨t,e,l,c,rfl,rfl,hu,hsz,hby,hz,hzl,h0,rfl⟩:=xn hc;obtain ⟨k,k',n,rfl,h1,h2,h3,_,hcs,rfl⟩:=je h;simp only [AK.key,Option.bind_some] at hcs;obtain ⟨x1,x2,e',r1,r2⟩:=dW (by simpa using hr);cases e';obtain ⟨v,w',G',g1,g2,g3,g4,g5⟩:=xd (k:=k) (k':=k') hu hsz hby hz hzl h0 h1 h2 h3 hi hcs;refine di (s:=Instr.makeSlice t (a.eval l) (a.eval c)) rfl ?_ g2 g3 g4 g5;rw [jw r1,jw r2];exact g1
 | append sz by_=>
   obtain ⟨c,rfl⟩:=vj hc;obtain ⟨x,y,t,e,t1,e1,z,hcal,hargs,rfl,h0,h1,hu,hu1,hsz,hby,hz,hzl,hs0,hb0⟩:=zU hc;obtain ⟨s,x',y',ts,rfl,happ,rfl⟩:=jy h;obtain ⟨x1,x2,e',r1,r2⟩:=dW (by simpa using hr);cases e';obtain ⟨v,w',G',g1,g2,g3,g4,g5⟩:=va (type:=type) h0 h1 hu hu1 hsz hby hz hzl hb0 r1 r2 hi happ;refine di (s:=Builtin.append_ c.argTypes type #[a.eval x,a.eval y]) ?_ g1 g2 g3 g4 g5;obtain ⟨callee,cargs,ctypes⟩:=c;simp only at hcal hargs;subst hcal;subst hargs;simp [execOp,resolve,invoke,builtin]
 | dd sz by_ ag=>
   obtain ⟨c,rfl⟩:=tq hc;obtain ⟨x,y,t,e,t1,e1,z,hcal,hargs,rfl,h0,h1,hu,hu1,hsz,hby,hz,hzl,hs0,hb0⟩:=w_ hc;obtain ⟨s,x',xs,y',sh',rfl,hxs,hhx,happ,rfl⟩:=kj h;obtain ⟨x1,x2,e',r1,r2⟩:=dW (by simpa using hr);cases e';obtain ⟨v,w',G',g1,g2,g3,g4,g5⟩:=tj (type:=type) h0 h1 hu hu1 hsz hby hz hzl hb0 r1 r2 hi hxs hhx happ;refine di (s:=Builtin.append_ c.argTypes type #[a.eval x,a.eval y]) ?_ g1 g2 g3 g4 g5;obtain ⟨callee,cargs,ctypes⟩:=c;simp only at hcal hargs;subst hcal;subst hargs;simp [execOp,resolve,invoke,builtin]
 | np sz by_=>first | (simp [exec] at h;done) | (simp [exec] at e;done) | (simp [exec];done)
 | jq sz=>
   obtain ⟨c,rfl⟩:=xp hc;obtain ⟨x,y,t,e,t1,e1,hcal,hargs,rfl,h0,h1,hu,hu1,hsz⟩:=DF hc;obtain ⟨x',y',xs,k,sh',rfl,hxs,hcp,rfl⟩:=ki h;obtain ⟨x1,x2,e',r1,r2⟩:=dW (by simpa using hr);cases e';obtain ⟨w',g1,g2,g3⟩:=xg (type:=type) h0 hu hsz r1 r2 hi hxs hcp;refine di (s:=Builtin.copy_ c.argTypes type #[a.eval x,a.eval y]) (v:=.int .i64 k) ?_ g1 (by simp only [aC];exact cB.2 rfl) g2 G.le_refl g3;obtain ⟨callee,cargs,ctypes⟩:=c;simp only at hcal hargs;subst hcal;subst hargs;simp [execOp,resolve,invoke,builtin]
 | gK sz z=>
   obtain ⟨c,rfl⟩:=vk hc;obtain ⟨x,t,e,hcal,hargs,rfl,h0,hu,hsz,hz,hzl,hs0⟩:=zW hc;obtain ⟨x',sh',rfl,hcl,rfl⟩:=pG h;obtain ⟨x1,e',r1⟩:=cM (by simpa using hr);cases e';obtain ⟨w',g1,g2,g3⟩:=vf (type:=type) h0 hu hz hzl hs0 r1 hi hcl;refine di (s:=Builtin.clear_ c.argTypes type #[a.eval x]) (v:=.tuple #[]) ?_ g1 (by simp only [aC];exact ⟨[],rfl,by simp [aB]⟩) g2 G.le_refl g3;obtain ⟨callee,cargs,ctypes⟩:=c;simp only at hcal hargs;subst hcal;subst hargs;simp [execOp,resolve,invoke,builtin]
end
end Go.Ab
