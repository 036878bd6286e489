import Derived.Test.YtfhhognolpjikaaGreatAbOps2
/-
  Literals, cuts, and the rest of the operations on values.
-/
set_option linter.unusedVariables false
set_option linter.unusedSimpArgs false
set_option maxRecDepth 100000
set_option maxHeartbeats 8000000
namespace Go.Ab
section
variable {P:Program} {ns:Names} {G:Gh} {w:World}
theorem gY {α β:Type} {f:α→Option β}:∀{l:List α} {r:List β},dI f l=some r→r.length=l.length
 | [],_,h=>by simp [dI] at h;subst h;rfl
 | x::l,r,h=>by
   simp only [dI] at h
   split at h
   · rename_i y ys h1 h2
     simp at h;subst h
     simp [gY h2]
   · simp at h
theorem vD {α β:Type} {f:α→Option β}:∀{l:List α} {r:List β},dI f l=some r→∀{i:Nat} {x:α},l[i]?=some x→∃y,r[i]?=some y∧f x=some y
 | [],_,_,i,x,hx=>by simp at hx
 | a::l,r,h,i,x,hx=>by
   simp only [dI] at h
   split at h
   · rename_i y ys h1 h2
     simp at h;subst h
     cases i with
     | zero=>simp at hx;subst hx;exact ⟨y,by simp,h1⟩
     | succ i=>simpa using vD h2 (by simpa using hx)
   · simp at h
theorem vE {α β:Type} {f:α→Sem β} {g:α→Option β} (hf:∀x y,g x=some y→(f x).run P w=.ok y w):∀{l:List α} {r:List β},
   dI g l=some r→(l.mapM f).run P w=.ok r w
 | [],_,h=>by simp [dI] at h;subst h;simp
 | x::l,r,h=>by
   simp only [dI] at h
   split at h
   · rename_i y ys h1 h2
     simp at h;subst h
     simp only [List.mapM_cons,Sem.run_bind,hf x y h1,Result.andThen_ok,vE hf h2,Sem.run_pure]
   · simp at h
theorem gO {t:Nat} {z:List PV} (h:dj P t=some z):∃zv,(zeroValue t).run P w=.ok zv w∧dI dH zv.cells.toList=some z:=by
 unfold dj at h
 split at h
 · rename_i zv hz
   cases hi:P.info? t with
   | none=>simp [hi] at hz
   | some i=>
     simp [hi] at hz
     exact ⟨zv,by simp [zeroValue,typeInfo,hi,hz],h⟩
 · simp at h
theorem tN {ρ:cg} {v:Value} {p:PV} (h:dH v=some p):aE ρ G (bP.zeroCell p) v∧bm (bP.zeroCell p)=true:=by
 obtain ⟨h1,h2⟩:=iH (K:=G.K) h
 unfold bP.zeroCell
 split
 · refine ⟨?_,rfl⟩
   cases v with
   | slice a l c=>
     cases a with
     | some a=>simp [dH] at h
     | none=>
       cases l with
       | succ l=>simp [dH] at h
       | zero=>
         cases c with
         | succ c=>simp [dH] at h
         | zero=>simp only [aE];exact ⟨none,0,rfl,rfl,.inl rfl⟩
   | _=>simp [dH] at h
 · refine ⟨by simp only [aE];exact Rel.F5 h1,?_⟩
   cases p<;>simp_all [bm,ik]
theorem gT {ρ:cg}:∀{l:List Value} {z:List PV},dI dH l=some z→aB ρ G (z.map bP.zeroCell) l∧(z.map bP.zeroCell).all bm=true
 | [],_,h=>by simp [dI] at h;subst h;simp [aB]
 | v::l,z,h=>by
   simp only [dI] at h
   split at h
   · rename_i y ys h1 h2
     simp at h;subst h
     obtain ⟨g1,g2⟩:=gT (ρ:=ρ) h2
     obtain ⟨g3,g4⟩:=tN (G:=G) (ρ:=ρ) h1
     simp only [List.map_cons,aB,List.all_cons,g4,g2,Bool.and_true,and_true]
     exact ⟨v,l,rfl,g3,g1⟩
   · simp at h
theorem nQ (off:Nat):∀(l:List Value) (k:Nat) (cs:Array Value),off+k+l.length≤cs.size →
   ((l.zipIdx k).foldl (fun cs (x:Value×Nat)=>cs.setIfInBounds (off+x.2) x.1) cs).toList=cs.toList.take (off+k)++l++cs.toList.drop (off+k+l.length)
 | [],k,cs,_=>by simp
 | v::l,k,cs,h=>by
   simp only [List.zipIdx_cons,List.foldl_cons]
   have h':off+(k+1)+l.length≤(cs.setIfInBounds (off+k) v).size:=by simp at h ⊢;omega
   rw [nQ off l (k+1) _ h']
   have:=list_seg_step cs.toList (off+k) v l (by simp at h ⊢;omega)
   simpa [Array.toList_setIfInBounds,Nat.add_assoc] using this
theorem gn {ρ:cg} {cs:List AV} {l:List Value} (off:Nat) {us:List AV} {vs:List Value} (h:aB ρ G cs l) (k:aB ρ G us vs) :
   aB ρ G (bA cs off us) (l.take off++vs++l.drop (off+vs.length)):=by
 unfold bA
 rw [←k.length]
 exact aB.append (aB.append (h.take off) k) (h.drop _)
theorem iv {B:AV→Bool} {cs us:List AV} {off:Nat} (h:cs.all B=true) (k:us.all B=true):(bA cs off us).all B=true:=by
 unfold bA
 rw [List.all_eq_true] at *
 intro x hx
 simp only [List.mem_append] at hx
 rcases hx with (hx | hx) | hx
 · exact h x (List.mem_of_mem_take hx)
 · exact k x hx
 · exact h x (List.mem_of_mem_drop hx)
theorem qn {place:Nat→Option (Nat×Nat)}:∀{is:List Nat} {pl:List (Nat×Nat)} {vals:List AV} {rvs:List Value} {cells:List AV} {rc:Array Value} {cs:List AV},
   dI place is=some pl→aB (num ns) G vals rvs→aB (num ns) G cells rc.toList→cells.all bm=true→is.length=rvs.length→ke cells pl vals=some cs →
   ∃rc',Instr.fill place rc (is.zip rvs)=some rc'∧aB (num ns) G cs rc'.toList∧cs.all bm=true
 | [],pl,vals,rvs,cells,rc,cs,hp,hv,hc,hb,hl,h=>by
   simp [dI] at hp;subst hp
   have:rvs=[]:=by cases rvs<;>simp_all
   subst this
   have:=hv.length
   have:vals=[]:=by cases vals<;>simp_all
   subst this
   simp [ke] at h;subst h
   exact ⟨rc,by simp [Instr.fill],hc,hb⟩
 | i::is,pl,vals,rvs,cells,rc,cs,hp,hv,hc,hb,hl,h=>by
   simp only [dI] at hp
   split at hp
   · rename_i y ys h1 h2
     simp at hp;subst hp
     obtain ⟨off,sz⟩:=y
     cases vals with
     | nil=>simp [ke] at h
     | cons v vals=>
       simp only [aB] at hv
       obtain ⟨rv,rr,rfl,e1,e2⟩:=hv
       simp only [ke,Option.ite_none_right_eq_some] at h
       obtain ⟨⟨g1,g2,g3⟩,h⟩:=h
       have hcells:=e1.cells g3
       have hlen:=hcells.length
       have hsz:rv.cells.size=sz:=by rw [←g1,←hlen];simp
       have hrc:rc.size=cells.length:=by have:=hc.length;simpa using this
       simp only [List.zip_cons_cons,Instr.fill,h1]
       have hcond:(decide (rv.cells.size≠sz) || decide (off+rv.cells.size > rc.size))=false:=by
         simp [hsz];omega
       have hfold:(rv.cells.zipIdx.foldl (fun cs (x:Value×Nat)=>cs.setIfInBounds (off+x.2) x.1) rc).toList=rc.toList.take off++rv.cells.toList++rc.toList.drop (off+rv.cells.toList.length):=by
         have:=nQ off rv.cells.toList 0 rc (by simp;omega)
         rw [←Array.foldl_toList]
         simpa using this
       rw [if_neg (by simp [hsz];omega)]
       refine qn (is:=is) h2 e2 (cells:=bA cells off (br v)) ?_ (iv hb g3) (by simpa using hl) h
       rw [hfold]
       exact gn off hc hcells
   · simp at hp
theorem tO {t:Nat} {all:List (Nat×Nat)} (h:fieldsOf P t=some all):∃fs,P.underlying t=some (.struct fs) ∧
   (fs.mapM fun f=>(do pure (f.offset,←sizeOf f.type):Sem (Nat×Nat))).run P w=.ok all.toArray w:=by
 unfold fieldsOf at h
 split at h
 · rename_i fs hu
   refine ⟨fs,hu,?_⟩
   rw [Array.mapM_eq_mapM_toList]
   simp only [Sem.run_map]
   rw [vE (g:=fun f=>(dM P f.type).map fun s=>(f.offset,s)) ?_ h]
   · rfl
   · intro f y hy
     simp only [Option.map_eq_some_iff] at hy
     obtain ⟨s,h1,rfl⟩:=hy
     simp only [Sem.run_bind,dZ h1,Result.andThen_ok,Sem.run_pure]
 · simp at h
theorem vF {t:Nat} {z:List PV} {is:List Nat} {pl:List (Nat×Nat)} {vals:List AV} {rvs:List Value} {x:AV}
   (hz:dj P t=some z) (hp:placesOf P t is=some pl) (hr:aB (num ns) G vals rvs) (hl:is.length=rvs.length) (h:bP (.build z pl) vals=some x) :
   ∃v,(Instr.build t (is.zip rvs).toArray).run P w=.ok v w∧aE (num ns) G x v:=by
 obtain ⟨zv,hz1,hz2⟩:=gO (w:=w) hz
 unfold placesOf at hp
 split at hp
 · rename_i all hall
   obtain ⟨fs,hu,hm⟩:=tO (w:=w) hall
   simp only [bP,Option.map_eq_some_iff] at h
   obtain ⟨cs,h1,rfl⟩:=h
   obtain ⟨g1,g2⟩:=gT (G:=G) (ρ:=num ns) hz2
   obtain ⟨rc,e1,e2,_⟩:=qn (place:=(all.toArray[·]?)) (rc:=zv.cells) (by simpa using hp) hr g1 g2 hl h1
   refine ⟨.agg rc,?_,?_⟩
   · simp only [Instr.build,Sem.run_bind,hz1,Result.andThen_ok,run_underlying hu,hm]
     simp only [e1,Sem.run_pure]
   · simp only [aE]
     exact ⟨rc.toList,by simp,e2⟩
 · simp at hp
theorem Rel.QP {K:bM} {p:PV} {v:Value} (h:Rel K p v):R K true p v.cells.toList:=by
 cases p with
 | agg cs=>obtain ⟨vs,rfl,h⟩:=h;simp only [R,Value.cells];exact ⟨trivial,by simpa using h⟩
 | bool b=>have h':=h;simp only [Rel,R] at h';simp at h';subst h';simpa [Value.cells] using R.top h
 | int k n=>have h':=h;simp only [Rel,R] at h';simp at h';subst h';simpa [Value.cells] using R.top h
 | str s=>have h':=h;simp only [Rel,R] at h';simp at h';subst h';simpa [Value.cells] using R.top h
 | aD els=>
   have h':=h
   obtain ⟨b,l,c,rfl,_⟩:=cU.1 h'
   simpa [Value.cells] using R.top h
theorem mS {x:AV} {p:PV} {v:Value} (h:jC x=some p) (hr:aE (num ns) G x v):Rel G.K p v:=by
 unfold jC at h
 split at h<;>simp at h<;>subst h
 · simpa only [aE] using hr
 · exact e_ (x:=.bD _) rfl hr
 · exact e_ (x:=.own _ _) rfl hr
theorem oQ {x:AV}:di [] x=jC x:=by
 cases x<;>simp [di,jC]
theorem nR {x:AV} {p:PV} (h:jC x=some p) (hl:bm x=true):ik p=true:=by
 cases x with
 | pv q=>simp [jC] at h;subst h;cases q<;>simp_all [bm,ik]
 | bD _=>simp [jC] at h;subst h;rfl
 | own _ _=>simp [jC] at h;subst h;rfl
 | _=>simp [jC] at h
theorem Rel.F6 {K:bM} {p:PV} {v:Value} (h:Rel K p v) (hl:ik p=true):R K false p [v]:=(F4 hl).1 h
theorem sF:∀{cs:List AV} {ps:List PV} {vs:List Value},en [] cs=some ps→aB (num ns) G cs vs→dK G.K ps vs
 | [],ps,vs,h,hr=>by simp [en] at h;subst h;simp only [aB] at hr;simp [dK,hr]
 | c::cs,ps,vs,h,hr=>by
   simp only [en,oQ,Option.ite_none_right_eq_some] at h
   obtain ⟨hl,h⟩:=h
   split at h
   · rename_i p ps' h1 h2
     simp at h;subst h
     simp only [aB] at hr
     obtain ⟨v,r,rfl,e1,e2⟩:=hr
     simp only [dK]
     exact ⟨v,r,rfl,(mS h1 e1).F6 (nR h1 hl),sF h2 e2⟩
   · simp at h
theorem lf {x:AV} {p:PV} {v:Value} (h:c_ [] x=some p) (hr:aE (num ns) G x v):Rel G.K p v:=by
 cases x with
 | agg cs=>
   simp only [c_,Option.map_eq_some_iff] at h
   obtain ⟨ps,h1,rfl⟩:=h
   simp only [aE] at hr
   obtain ⟨vs,rfl,hr⟩:=hr
   simp only [Rel]
   exact ⟨vs,rfl,sF h1 hr⟩
 | _=>simp only [c_,oQ] at h;exact mS h hr
theorem jD:∀{xs:List AV} {ps:List PV} {vs:List Value},dd [] xs=some ps→aB (num ns) G xs vs→jo G.K ps vs
 | [],ps,vs,h,hr=>by simp [dd] at h;subst h;simp only [aB] at hr;exact hr
 | c::cs,ps,vs,h,hr=>by
   simp only [dd] at h
   split at h
   · rename_i p ps' h1 h2
     simp at h;subst h
     simp only [aB] at hr
     obtain ⟨v,r,rfl,e1,e2⟩:=hr
     exact ⟨v,r,rfl,lf h1 e1,jD h2 e2⟩
   · simp at h
def Gh.qo (G:Gh) (b:Nat) (c:Array Value):Gh:={ G with K:=fun b' o=>if b'=b then c[o]? else G.K b' o }
theorem Inv.iI {ρ:cg} {mem:List (Nat×List AV)} {sh:Sh} {ah:aM} (h:Inv ρ G w mem sh ah) {b o:Nat} {v:Value} (hk:G.K b o=some v):b<w.heap.size:=
 World.block_lt_of_cell? _ _ (h.known b o v hk)
theorem Gh.pS {ρ:cg} {mem:List (Nat×List AV)} {sh:Sh} {ah:aM} (h:Inv ρ G w mem sh ah) (c:Array Value):G.le (G.qo w.heap.size c) where
 K:=fun b o v hk=>by
   have:=h.iI hk
   simp only [Gh.qo]
   rw [if_neg (by omega)]
   exact hk
 pm:=fun _ _ h=>h
 sm:=fun _ _ h=>h
 tk:=fun _ t h=>⟨t,h,Nat.le_refl _,fun _=>rfl⟩
theorem bN {o:Obj} {b:Nat} (h:b<w.heap.size):(w.alloc o).heap[b]?=w.heap[b]?:=RowKit.Below.heap_alloc w o b h
theorem heap_alloc_new {o:Obj}:(w.alloc o).heap[w.heap.size]?=some o:=by
 show (w.heap.push o)[w.heap.size]?=some o
 simp
theorem cM {b:Nat} {o:Obj} (h:w.heap[b]?=some o):b<w.heap.size:=by
 rcases Nat.lt_or_ge b w.heap.size with h' | h'
 · exact h'
 · simp [Array.getElem?_eq_none h'] at h
theorem Qc.mono {ρ:cg} {G':Gh} {w':World} {b:Nat} {r:ku} {cells:List AV} (h:Qc ρ G w b r cells) (hle:G.le G') (hr:G'.role b=G.role b) (hh:w'.heap[b]?=w.heap[b]?):Qc ρ G' w' b r cells:=by
 obtain ⟨h1,c,t,h2,h3⟩:=h
 exact ⟨hr.trans h1,c,t,hh.trans h2,aB.mono hle h3⟩
theorem tM.mono {ρ:cg} {G':Gh} {w':World} {b:Nat×Nat} {r:ku} {cells:List AV} (h:tM ρ G w b r cells) (hle:G.le G') (hr:G'.role b.1=G.role b.1) (hh:w'.heap[b.1]?=w.heap[b.1]?):tM ρ G' w' b r cells:=by
 obtain ⟨h1,o,h2,h3⟩:=h
 exact ⟨hr.trans h1,o,hh.trans h2,h3.mono hle⟩
theorem tM.lt {ρ:cg} {b:Nat×Nat} {r:ku} {cells:List AV} (h:tM ρ G w b r cells):b.1<w.heap.size:=by
 obtain ⟨_,o,h2,_⟩:=h
 exact cM h2
theorem Inv.qp {ρ:cg} {mem:List (Nat×List AV)} {sh:Sh} {ah:aM} (h:Inv ρ G w mem sh ah) (c:Array Value) (t:TypeId) :
   Inv ρ (G.qo w.heap.size c) (w.alloc (.cells c t)) mem sh ah:=by
 have hle:=Gh.pS h c
 constructor
 · intro b o v hk
   simp only [Gh.qo] at hk
   split at hk
   · rename_i hb;subst hb
     simp [hk]
   · rw [World.cell?_alloc_old]
     · exact h.known b o v hk
     · simpa using ‹¬b=w.heap.size›
 · intro b o v hk
   simp only [Gh.qo] at hk
   split at hk
   · rename_i hb;subst hb
     exact .inl (h.fresh _ (Nat.le_refl _))
   · exact h.bt b o v hk
 · intro b hb
   simp at hb
   exact h.fresh b (by omega)
 · intro d cells hd
   obtain ⟨b,e1,e2,e3⟩:=h.da d cells hd
   have hb:b<w.heap.size:=by obtain ⟨c,t,hh,_⟩:=e2.at_;exact cM hh
   exact ⟨b,e1,e2.mono hle rfl (bN hb),e3⟩
 · exact h.gN
 · intro d cells hd
   obtain ⟨b,e1,e2,e3⟩:=h.dN d cells hd
   have hb:b.1<w.heap.size:=e2.lt
   exact ⟨b,e1,e2.mono hle rfl (bN hb),e3⟩
 · exact h.eZ
 · intro τ n hn
   obtain ⟨tk,e1,e2,e3⟩:=h.dp τ n hn
   refine ⟨tk,e1,e2,e3.cap,e3.zero,fun hlt=>?_⟩
   obtain ⟨b,o,cc,ty,f1,f2,f3,f4,f5⟩:=e3.spare hlt
   have hb:=cM f3
   refine ⟨b,o,cc,ty,f1,f2,(bN hb).trans f3,f4,fun j v hk=>f5 j v ?_⟩
   simp only [Gh.qo] at hk
   rwa [if_neg (by omega)] at hk
 · exact h.e8
theorem cu.qp {ρ:cg} {mem:List (Nat×List AV)} {sh:Sh} {ah:aM} (h:Inv ρ G w mem sh ah) (c:Array Value) (t:TypeId) :
   cu G w (G.qo w.heap.size c) (w.alloc (.cells c t)) where
 size:=by simp
 os:=rfl
 tape:=rfl
 output:=rfl
 K:=(Gh.pS h c).K
 sm:=fun _ _ h=>h
 dV:=fun b hb hr=>⟨hr,bN hb⟩
 ir:=fun b τ _ hr=>.inr ⟨τ,hr⟩
 gB:=fun b o v hb _ hk=>by
   simp only [Gh.qo] at hk
   rwa [if_neg (by omega)] at hk
theorem JJ {b:Nat} {l:List Value}:At (G.qo b l.toArray).K b 0 l:=by
 intro j v hj
 simp only [Gh.qo,if_true,Nat.zero_add]
 simpa using hj
end
end Go.Ab
