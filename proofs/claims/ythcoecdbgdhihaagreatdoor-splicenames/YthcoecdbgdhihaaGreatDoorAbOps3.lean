import Derived.Test.YthcoecdbgdhihaaGreatDoorAbOps2
/-
  Literals, cuts, and the rest of the operations on values.
-/
set_option linter.unusedVariables false
set_option linter.unusedSimpArgs false
set_option linter.unnecessarySimpa false
set_option maxRecDepth 100000
set_option maxHeartbeats 8000000
namespace Go.Ab
section
variable {P:Program} {ns:Names} {G:Gh} {w:World}
theorem gD {α β:Type} {f:α→Option β}:∀{l:List α} {r:List β},cL f l=some r→r.length=l.length
 | [],_,h=>by simp [cL] at h;subst h;rfl
 | x::l,r,h=>by
   simp only [cL] at h;split at h
   · rename_i y ys h1 h2;simp at h;subst h;simp [gD h2]
   · simp at h
theorem wW {α β:Type} {f:α→Option β}:∀{l:List α} {r:List β},cL f l=some r→∀{i:Nat} {x:α},l[i]?=some x→∃y,r[i]?=some y∧f x=some y
 | [],_,_,i,x,hx=>by simp at hx
 | a::l,r,h,i,x,hx=>by
   simp only [cL] at h;split at h
   · rename_i y ys h1 h2;simp at h;subst h;cases i with
     | zero=>simp at hx;subst hx;exact ⟨y,by simp,h1⟩
     | succ i=>simpa using wW h2 (by simpa using hx)
   · simp at h
theorem wX {α β:Type} {f:α→Sem β} {g:α→Option β} (hf:∀x y,g x=some y→(f x).run P w=.ok y w):∀{l:List α} {r:List β},
   cL g l=some r→(l.mapM f).run P w=.ok r w
 | [],_,h=>by simp [cL] at h;subst h;simp
 | x::l,r,h=>by
   simp only [cL] at h;split at h
   · rename_i y ys h1 h2;simp at h;subst h;simp only [List.mapM_cons,Sem.run_bind,hf x y h1,Result.andThen_ok,wX hf h2,Sem.run_pure]
   · simp at h
theorem gE {t:Nat} {z:List PV} (h:cT P t=some z):∃zv,(zeroValue t).run P w=.ok zv w∧cL d0 zv.cells.toList=some z:=by
 unfold cT at h;split at h
 · rename_i zv hz;cases hi:P.info? t with
   | none=>simp [hi] at hz
   | some i=>
     simp [hi] at hz;exact ⟨zv,by simp [zeroValue,typeInfo,hi,hz],h⟩
 · simp at h
theorem uX {ρ:cy} {v:Value} {p:PV} (h:d0 v=some p):aC ρ G (cf.zeroCell p) v∧bp (cf.zeroCell p)=true:=by
 obtain ⟨h1,h2⟩:=mO (K:=G.K) h;unfold cf.zeroCell;split
 · refine ⟨?_,rfl⟩;cases v with
   | slice a l c=>
     cases a with
     | some a=>simp [d0] at h
     | none=>
       cases l with
       | succ l=>simp [d0] at h
       | zero=>
         cases c with
         | succ c=>simp [d0] at h
         | zero=>simp only [aC];exact ⟨none,0,rfl,rfl,.inl rfl⟩
   | _=>simp [d0] at h
 · refine ⟨by simp only [aC];exact Rel.Jy h1,?_⟩;cases p<;>simp_all [bp,eI]
theorem il {ρ:cy}:∀{l:List Value} {z:List PV},cL d0 l=some z→aB ρ G (z.map cf.zeroCell) l∧(z.map cf.zeroCell).all bp=true
 | [],_,h=>by simp [cL] at h;subst h;simp [aB]
 | v::l,z,h=>by
   simp only [cL] at h;split at h
   · rename_i y ys h1 h2;simp at h;subst h;obtain ⟨g1,g2⟩:=il (ρ:=ρ) h2;obtain ⟨g3,g4⟩:=uX (G:=G) (ρ:=ρ) h1;simp only [List.map_cons,aB,List.all_cons,g4,g2,Bool.and_true,and_true];exact ⟨v,l,rfl,g3,g1⟩
   · simp at h
theorem oD (off:Nat):∀(l:List Value) (k:Nat) (cs:Array Value),off+k+l.length≤cs.size →
   ((l.zipIdx k).foldl (fun cs (x:Value×Nat)=>cs.setIfInBounds (off+x.2) x.1) cs).toList=cs.toList.take (off+k)++l++cs.toList.drop (off+k+l.length)
 | [],k,cs,_=>by simp
 | v::l,k,cs,h=>by
   simp only [List.zipIdx_cons,List.foldl_cons];have h':off+(k+1)+l.length≤(cs.setIfInBounds (off+k) v).size:=by simp at h ⊢;omega
   rw [oD off l (k+1) _ h'];have:=list_seg_step cs.toList (off+k) v l (by simp at h ⊢;omega);simpa [Array.toList_setIfInBounds,Nat.add_assoc] using this
theorem fy {ρ:cy} {cs:List AV} {l:List Value} (off:Nat) {us:List AV} {vs:List Value} (h:aB ρ G cs l) (k:aB ρ G us vs) :
   aB ρ G (bn cs off us) (l.take off++vs++l.drop (off+vs.length)):=by
 unfold bn;rw [←k.length];exact aB.append (aB.append (h.take off) k) (h.drop _)
theorem iN {B:AV→Bool} {cs us:List AV} {off:Nat} (h:cs.all B=true) (k:us.all B=true):(bn cs off us).all B=true:=by
 unfold bn;rw [List.all_eq_true] at *;intro x hx;simp only [List.mem_append] at hx;rcases hx with (hx | hx) | hx
 · exact h x (List.mem_of_mem_take hx)
 · exact k x hx
 · exact h x (List.mem_of_mem_drop hx)
theorem qX {place:Nat→Option (Nat×Nat)}:∀{is:List Nat} {pl:List (Nat×Nat)} {vals:List AV} {rvs:List Value} {cells:List AV} {rc:Array Value} {cs:List AV},
   cL place is=some pl→aB (num ns) G vals rvs→aB (num ns) G cells rc.toList→cells.all bp=true→is.length=rvs.length→kK cells pl vals=some cs →
   ∃rc',Instr.fill place rc (is.zip rvs)=some rc'∧aB (num ns) G cs rc'.toList∧cs.all bp=true
 | [],pl,vals,rvs,cells,rc,cs,hp,hv,hc,hb,hl,h=>by
   simp [cL] at hp;subst hp;have:rvs=[]:=by cases rvs<;>simp_all
   subst this;have:=hv.length;have:vals=[]:=by cases vals<;>simp_all
   subst this;simp [kK] at h;subst h;exact ⟨rc,by simp [Instr.fill],hc,hb⟩
 | i::is,pl,vals,rvs,cells,rc,cs,hp,hv,hc,hb,hl,h=>by
   simp only [cL] at hp;split at hp
   · rename_i y ys h1 h2;simp at hp;subst hp;obtain ⟨off,sz⟩:=y;cases vals with
     | nil=>simp [kK] at h
     | cons v vals=>
       simp only [aB] at hv;obtain ⟨rv,rr,rfl,e1,e2⟩:=hv;simp only [kK,Option.ite_none_right_eq_some] at h;obtain ⟨⟨g1,g2,g3⟩,h⟩:=h;have hcells:=e1.cells g3;have hlen:=hcells.length;have hsz:rv.cells.size=sz:=by rw [←g1,←hlen];simp
       have hrc:rc.size=cells.length:=by have:=hc.length;simpa using this
       simp only [List.zip_cons_cons,Instr.fill,h1];have hcond:(decide (rv.cells.size≠sz) || decide (off+rv.cells.size > rc.size))=false:=by
         simp [hsz];omega
       have hfold:(rv.cells.zipIdx.foldl (fun cs (x:Value×Nat)=>cs.setIfInBounds (off+x.2) x.1) rc).toList=rc.toList.take off++rv.cells.toList++rc.toList.drop (off+rv.cells.toList.length):=by
         have:=oD off rv.cells.toList 0 rc (by simp;omega);rw [←Array.foldl_toList];simpa using this
       rw [if_neg (by simp [hsz];omega)];refine qX (is:=is) h2 e2 (cells:=bn cells off (bF v)) ?_ (iN hb g3) (by simpa using hl) h;rw [hfold];exact fy off hc hcells
   · simp at hp
theorem uY {t:Nat} {all:List (Nat×Nat)} (h:fieldsOf P t=some all):∃fs,P.underlying t=some (.struct fs) ∧
   (fs.mapM fun f=>(do pure (f.offset,←sizeOf f.type):Sem (Nat×Nat))).run P w=.ok all.toArray w:=by
 unfold fieldsOf at h;split at h
 · rename_i fs hu;refine ⟨fs,hu,?_⟩;rw [Array.mapM_eq_mapM_toList];simp only [Sem.run_map];rw [wX (g:=fun f=>(cW P f.type).map fun s=>(f.offset,s)) ?_ h]
   · rfl
   · intro f y hy;simp only [Option.map_eq_some_iff] at hy;obtain ⟨s,h1,rfl⟩:=hy;simp only [Sem.run_bind,dJ h1,Result.andThen_ok,Sem.run_pure]
 · simp at h
theorem wY {t:Nat} {z:List PV} {is:List Nat} {pl:List (Nat×Nat)} {vals:List AV} {rvs:List Value} {x:AV}
   (hz:cT P t=some z) (hp:placesOf P t is=some pl) (hr:aB (num ns) G vals rvs) (hl:is.length=rvs.length) (h:cf (.build z pl) vals=some x) :
   ∃v,(Instr.build t (is.zip rvs).toArray).run P w=.ok v w∧aC (num ns) G x v:=by
 obtain ⟨zv,hz1,hz2⟩:=gE (w:=w) hz;unfold placesOf at hp;split at hp
 · rename_i all hall;obtain ⟨fs,hu,hm⟩:=uY (w:=w) hall;simp only [cf,Option.map_eq_some_iff] at h;obtain ⟨cs,h1,rfl⟩:=h;obtain ⟨g1,g2⟩:=il (G:=G) (ρ:=num ns) hz2;obtain ⟨rc,e1,e2,_⟩:=qX (place:=(all.toArray[·]?)) (rc:=zv.cells) (by simpa using hp) hr g1 g2 hl h1;refine ⟨.agg rc,?_,?_⟩
   · simp only [Instr.build,Sem.run_bind,hz1,Result.andThen_ok,run_underlying hu,hm];simp only [e1,Sem.run_pure]
   · simp only [aC];exact ⟨rc.toList,by simp,e2⟩
 · simp at hp
theorem Rel.Q8 {K:bJ} {p:PV} {v:Value} (h:Rel K p v):R K true p v.cells.toList:=by
 cases p with
 | agg cs=>obtain ⟨vs,rfl,h⟩:=h;simp only [R,Value.cells];exact ⟨trivial,by simpa using h⟩
 | bool b=>have h':=h;simp only [Rel,R] at h';simp at h';subst h';simpa [Value.cells] using R.top h
 | int k n=>have h':=h;simp only [Rel,R] at h';simp at h';subst h';simpa [Value.cells] using R.top h
 | str s=>have h':=h;simp only [Rel,R] at h';simp at h';subst h';simpa [Value.cells] using R.top h
 | aI els=>
   have h':=h;obtain ⟨b,l,c,rfl,_⟩:=cK.1 h';simpa [Value.cells] using R.top h
theorem nu {x:AV} {p:PV} {v:Value} (h:kS x=some p) (hr:aC (num ns) G x v):Rel G.K p v:=by
 unfold kS at h;split at h<;>simp at h<;>subst h
 · simpa only [aC] using hr
 · exact ew (x:=.bM _) rfl hr
 · exact ew (x:=.own _ _) rfl hr
theorem pA {x:AV}:ee [] x=kS x:=by
 cases x<;>simp [ee,kS]
theorem oE {x:AV} {p:PV} (h:kS x=some p) (hl:bp x=true):eI p=true:=by
 cases x with
 | pv q=>simp [kS] at h;subst h;cases q<;>simp_all [bp,eI]
 | bM _=>simp [kS] at h;subst h;rfl
 | own _ _=>simp [kS] at h;subst h;rfl
 | _=>simp [kS] at h
theorem Rel.GA {K:bJ} {p:PV} {v:Value} (h:Rel K p v) (hl:eI p=true):R K false p [v]:=(Gx hl).1 h
theorem tR:∀{cs:List AV} {ps:List PV} {vs:List Value},dT [] cs=some ps→aB (num ns) G cs vs→dV G.K ps vs
 | [],ps,vs,h,hr=>by simp [dT] at h;subst h;simp only [aB] at hr;simp [dV,hr]
 | c::cs,ps,vs,h,hr=>by
   simp only [dT,pA,Option.ite_none_right_eq_some] at h;obtain ⟨hl,h⟩:=h;split at h
   · rename_i p ps' h1 h2;simp at h;subst h;simp only [aB] at hr;obtain ⟨v,r,rfl,e1,e2⟩:=hr;simp only [dV];exact ⟨v,r,rfl,(nu h1 e1).GA (oE h1 hl),tR h2 e2⟩
   · simp at h
theorem nv {x:AV} {p:PV} {v:Value} (h:dR [] x=some p) (hr:aC (num ns) G x v):Rel G.K p v:=by
 cases x with
 | agg cs=>
   simp only [dR,Option.map_eq_some_iff] at h;obtain ⟨ps,h1,rfl⟩:=h;simp only [aC] at hr;obtain ⟨vs,rfl,hr⟩:=hr;simp only [Rel];exact ⟨vs,rfl,tR h1 hr⟩
 | _=>simp only [dR,pA] at h;exact nu h hr
theorem j8:∀{xs:List AV} {ps:List PV} {vs:List Value},dF [] xs=some ps→aB (num ns) G xs vs→iZ G.K ps vs
 | [],ps,vs,h,hr=>by simp [dF] at h;subst h;simp only [aB] at hr;exact hr
 | c::cs,ps,vs,h,hr=>by
   simp only [dF] at h;split at h
   · rename_i p ps' h1 h2;simp at h;subst h;simp only [aB] at hr;obtain ⟨v,r,rfl,e1,e2⟩:=hr;exact ⟨v,r,rfl,nv h1 e1,j8 h2 e2⟩
   · simp at h
def Gh.iO (G:Gh) (b:Nat) (c:Array Value):Gh:={ G with K:=fun b' o=>if b'=b then c[o]? else G.K b' o }
theorem Inv.i_ {ρ:cy} {mem:List (Nat×List AV)} {sh:Sh} {ah:aN} (h:Inv ρ G w mem sh ah) {b o:Nat} {v:Value} (hk:G.K b o=some v):b<w.heap.size:=
 World.block_lt_of_cell? _ _ (h.known b o v hk)
theorem Gh.qo {ρ:cy} {mem:List (Nat×List AV)} {sh:Sh} {ah:aN} (h:Inv ρ G w mem sh ah) (c:Array Value):G.le (G.iO w.heap.size c) where
 K:=fun b o v hk=>by
   have:=h.i_ hk;simp only [Gh.iO];rw [if_neg (by omega)];exact hk
 pm:=fun _ _ h=>h
 sm:=fun _ _ h=>h
 tk:=fun _ t h=>⟨t,h,⟨Nat.le_refl _,t.gM⟩,fun _=>rfl⟩
theorem bR {o:Obj} {b:Nat} (h:b<w.heap.size):(w.alloc o).heap[b]?=w.heap[b]?:=RowKit.Below.heap_alloc w o b h
theorem heap_alloc_new {o:Obj}:(w.alloc o).heap[w.heap.size]?=some o:=by
 show (w.heap.push o)[w.heap.size]?=some o;simp
theorem cQ {b:Nat} {o:Obj} (h:w.heap[b]?=some o):b<w.heap.size:=by
 rcases Nat.lt_or_ge b w.heap.size with h' | h'
 · exact h'
 · simp [Array.getElem?_eq_none h'] at h
theorem Qj.mono {ρ:cy} {G':Gh} {w':World} {b:Nat} {r:lr} {cells:List AV} (h:Qj ρ G w b r cells) (hle:G.le G') (hr:G'.role b=G.role b) (hh:w'.heap[b]?=w.heap[b]?):Qj ρ G' w' b r cells:=by
 obtain ⟨h1,c,t,h2,h3⟩:=h;exact ⟨hr.trans h1,c,t,hh.trans h2,aB.mono hle h3⟩
theorem uW.mono {ρ:cy} {G':Gh} {w':World} {b:Nat×Nat} {r:lr} {cells:List AV} (h:uW ρ G w b r cells) (hle:G.le G') (hr:G'.role b.1=G.role b.1) (hh:w'.heap[b.1]?=w.heap[b.1]?):uW ρ G' w' b r cells:=by
 obtain ⟨h1,o,h2,h3⟩:=h;exact ⟨hr.trans h1,o,hh.trans h2,h3.mono hle⟩
theorem uW.lt {ρ:cy} {b:Nat×Nat} {r:lr} {cells:List AV} (h:uW ρ G w b r cells):b.1<w.heap.size:=by
 obtain ⟨_,o,h2,_⟩:=h;exact cQ h2
theorem Inv.qY {ρ:cy} {mem:List (Nat×List AV)} {sh:Sh} {ah:aN} (h:Inv ρ G w mem sh ah) (c:Array Value) (t:TypeId) :
   Inv ρ (G.iO w.heap.size c) (w.alloc (.cells c t)) mem sh ah:=by
 have hle:=Gh.qo h c;constructor
 · intro b o v hk;simp only [Gh.iO] at hk;split at hk
   · rename_i hb;subst hb;simp [hk]
   · rw [World.cell?_alloc_old]
     · exact h.known b o v hk
     · simpa using ‹¬b=w.heap.size›
 · intro b o v hk;simp only [Gh.iO] at hk;split at hk
   · rename_i hb;subst hb;exact .inl (h.fresh _ (Nat.le_refl _))
   · exact h.bz b o v hk
 · intro b hb;simp at hb;exact h.fresh b (by omega)
 · intro d cells hd;obtain ⟨b,e1,e2,e3⟩:=h.dq d cells hd;have hb:b<w.heap.size:=by obtain ⟨c,t,hh,_⟩:=e2.at_;exact cQ hh
   exact ⟨b,e1,e2.mono hle rfl (bR hb),e3⟩
 · exact h.gN
 · intro d cells hd;obtain ⟨b,e1,e2,e3⟩:=h.dP d cells hd;have hb:b.1<w.heap.size:=e2.lt;exact ⟨b,e1,e2.mono hle rfl (bR hb),e3⟩
 · exact h.eJ
 · intro τ n hn;obtain ⟨tk,e1,e2,e3⟩:=h.dI τ n hn;refine ⟨tk,e1,e2,e3.cap,e3.zero,fun hlt=>?_⟩;obtain ⟨b,o,cc,ty,f1,f2,f3,f4,f5⟩:=e3.spare hlt;have hb:=cQ f3;refine ⟨b,o,cc,ty,f1,f2,(bR hb).trans f3,f4,fun j v hk=>f5 j v ?_⟩;simp only [Gh.iO] at hk
   rwa [if_neg (by omega)] at hk
 · exact h.fc
 · intro b c' hb;obtain ⟨h1,t',z,h2⟩:=h.jS b c' hb;exact ⟨h1,t',z,(bR (Array.getElem?_eq_some_iff.1 h2).1).trans h2⟩
theorem cq.qY {ρ:cy} {mem:List (Nat×List AV)} {sh:Sh} {ah:aN} (h:Inv ρ G w mem sh ah) (c:Array Value) (t:TypeId) :
   cq G w (G.iO w.heap.size c) (w.alloc (.cells c t)) where
 size:=by simp
 os:=rfl
 tape:=rfl
 output:=rfl
 K:=(Gh.qo h c).K
 sm:=fun _ _ h=>h
 eE:=fun b hb hr=>⟨hr,bR hb⟩
 iG:=fun b τ _ hr=>.inr ⟨τ,hr⟩
 gO:=fun b o v hb _ hk=>by
   simp only [Gh.iO] at hk
   rwa [if_neg (by omega)] at hk
theorem JI {b:Nat} {l:List Value}:At (G.iO b l.toArray).K b 0 l:=by
 intro j v hj;simp only [Gh.iO,if_true,Nat.zero_add];simpa using hj
end
end Go.Ab
