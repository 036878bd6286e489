import Derived.Test.YtcjggpmnbcfedaaGreatDoorAbOps2
/-
  Literals, cuts, and the rest of the operations on values.
-/
set_option linter.unusedVariables false
set_option linter.unusedSimpArgs false
set_option linter.unnecessarySimpa false
set_option maxRecDepth 100000
set_option maxHeartbeats 8000000
namespace Go.Ab
section
variable {P:Program} {ns:Names} {G:Gh} {w:World}
theorem gO {α β:Type} {f:α→Option β}:∀{l:List α} {r:List β},cH f l=some r→r.length=l.length
 | [],_,h=>by simp [cH] at h;subst h;rfl
 | x::l,r,h=>by
   simp only [cH] at h
   split at h
   · rename_i y ys h1 h2
     simp at h;subst h
     simp [gO h2]
   · simp at h
theorem x7 {α β:Type} {f:α→Option β}:∀{l:List α} {r:List β},cH f l=some r→∀{i:Nat} {x:α},l[i]?=some x→∃y,r[i]?=some y∧f x=some y
 | [],_,_,i,x,hx=>by simp at hx
 | a::l,r,h,i,x,hx=>by
   simp only [cH] at h
   split at h
   · rename_i y ys h1 h2
     simp at h;subst h
     cases i with
     | zero=>simp at hx;subst hx;exact ⟨y,by simp,h1⟩
     | succ i=>simpa using x7 h2 (by simpa using hx)
   · simp at h
theorem x8 {α β:Type} {f:α→Sem β} {g:α→Option β} (hf:∀x y,g x=some y→(f x).run P w=.ok y w):∀{l:List α} {r:List β},
   cH g l=some r→(l.mapM f).run P w=.ok r w
 | [],_,h=>by simp [cH] at h;subst h;simp
 | x::l,r,h=>by
   simp only [cH] at h
   split at h
   · rename_i y ys h1 h2
     simp at h;subst h
     simp only [List.mapM_cons,Sem.run_bind,hf x y h1,Result.andThen_ok,x8 hf h2,Sem.run_pure]
   · simp at h
theorem gP {t:Nat} {z:List PV} (h:cO P t=some z):∃zv,(zeroValue t).run P w=.ok zv w∧cH dZ zv.cells.toList=some z:=by
 unfold cO at h
 split at h
 · rename_i zv hz
   cases hi:P.info? t with
   | none=>simp [hi] at hz
   | some i=>
     simp [hi] at hz
     exact ⟨zv,by simp [zeroValue,typeInfo,hi,hz],h⟩
 · simp at h
theorem v5 {ρ:cr} {v:Value} {p:PV} (h:dZ v=some p):au ρ G (bW.zeroCell p) v∧bm (bW.zeroCell p)=true:=by
 obtain ⟨h1,h2⟩:=jn (K:=G.K) h
 unfold bW.zeroCell
 split
 · refine ⟨?_,rfl⟩
   cases v with
   | slice a l c=>
     cases a with
     | some a=>simp [dZ] at h
     | none=>
       cases l with
       | succ l=>simp [dZ] at h
       | zero=>
         cases c with
         | succ c=>simp [dZ] at h
         | zero=>simp only [au];exact ⟨none,0,rfl,rfl,.inl rfl⟩
   | _=>simp [dZ] at h
 · refine ⟨by simp only [au];exact Rel.Ja h1,?_⟩
   cases p<;>simp_all [bm,eA]
theorem iG {ρ:cr}:∀{l:List Value} {z:List PV},cH dZ l=some z→aw ρ G (z.map bW.zeroCell) l∧(z.map bW.zeroCell).all bm=true
 | [],_,h=>by simp [cH] at h;subst h;simp [aw]
 | v::l,z,h=>by
   simp only [cH] at h
   split at h
   · rename_i y ys h1 h2
     simp at h;subst h
     obtain ⟨g1,g2⟩:=iG (ρ:=ρ) h2
     obtain ⟨g3,g4⟩:=v5 (G:=G) (ρ:=ρ) h1
     simp only [List.map_cons,aw,List.all_cons,g4,g2,Bool.and_true,and_true]
     exact ⟨v,l,rfl,g3,g1⟩
   · simp at h
theorem pG (off:Nat):∀(l:List Value) (k:Nat) (cs:Array Value),off+k+l.length≤cs.size →
   ((l.zipIdx k).foldl (fun cs (x:Value×Nat)=>cs.setIfInBounds (off+x.2) x.1) cs).toList=cs.toList.take (off+k)++l++cs.toList.drop (off+k+l.length)
 | [],k,cs,_=>by simp
 | v::l,k,cs,h=>by
   simp only [List.zipIdx_cons,List.foldl_cons]
   have h':off+(k+1)+l.length≤(cs.setIfInBounds (off+k) v).size:=by simp at h ⊢;omega
   rw [pG off l (k+1) _ h']
   have:=list_seg_step cs.toList (off+k) v l (by simp at h ⊢;omega)
   simpa [Array.toList_setIfInBounds,Nat.add_assoc] using this
theorem eH {ρ:cr} {cs:List AV} {l:List Value} (off:Nat) {us:List AV} {vs:List Value} (h:aw ρ G cs l) (k:aw ρ G us vs) :
   aw ρ G (bn cs off us) (l.take off++vs++l.drop (off+vs.length)):=by
 unfold bn
 rw [←k.length]
 exact aw.append (aw.append (h.take off) k) (h.drop _)
theorem gf {B:AV→Bool} {cs us:List AV} {off:Nat} (h:cs.all B=true) (k:us.all B=true):(bn cs off us).all B=true:=by
 unfold bn
 rw [List.all_eq_true] at *
 intro x hx
 simp only [List.mem_append] at hx
 rcases hx with (hx | hx) | hx
 · exact h x (List.mem_of_mem_take hx)
 · exact k x hx
 · exact h x (List.mem_of_mem_drop hx)
theorem r5 {place:Nat→Option (Nat×Nat)}:∀{is:List Nat} {pl:List (Nat×Nat)} {vals:List AV} {rvs:List Value} {cells:List AV} {rc:Array Value} {cs:List AV},
   cH place is=some pl→aw (num ns) G vals rvs→aw (num ns) G cells rc.toList→cells.all bm=true→is.length=rvs.length→lB cells pl vals=some cs →
   ∃rc',Instr.fill place rc (is.zip rvs)=some rc'∧aw (num ns) G cs rc'.toList∧cs.all bm=true
 | [],pl,vals,rvs,cells,rc,cs,hp,hv,hc,hb,hl,h=>by
   simp [cH] at hp;subst hp
   have:rvs=[]:=by cases rvs<;>simp_all
   subst this
   have:=hv.length
   have:vals=[]:=by cases vals<;>simp_all
   subst this
   simp [lB] at h;subst h
   exact ⟨rc,by simp [Instr.fill],hc,hb⟩
 | i::is,pl,vals,rvs,cells,rc,cs,hp,hv,hc,hb,hl,h=>by
   simp only [cH] at hp
   split at hp
   · rename_i y ys h1 h2
     simp at hp;subst hp
     obtain ⟨off,sz⟩:=y
     cases vals with
     | nil=>simp [lB] at h
     | cons v vals=>
       simp only [aw] at hv
       obtain ⟨rv,rr,rfl,e1,e2⟩:=hv
       simp only [lB,Option.ite_none_right_eq_some] at h
       obtain ⟨⟨g1,g2,g3⟩,h⟩:=h
       have hcells:=e1.cells g3
       have hlen:=hcells.length
       have hsz:rv.cells.size=sz:=by rw [←g1,←hlen];simp
       have hrc:rc.size=cells.length:=by have:=hc.length;simpa using this
       simp only [List.zip_cons_cons,Instr.fill,h1]
       have hcond:(decide (rv.cells.size≠sz) || decide (off+rv.cells.size > rc.size))=false:=by
         simp [hsz];omega
       have hfold:(rv.cells.zipIdx.foldl (fun cs (x:Value×Nat)=>cs.setIfInBounds (off+x.2) x.1) rc).toList=rc.toList.take off++rv.cells.toList++rc.toList.drop (off+rv.cells.toList.length):=by
         have:=pG off rv.cells.toList 0 rc (by simp;omega)
         rw [←Array.foldl_toList]
         simpa using this
       rw [if_neg (by simp [hsz];omega)]
       refine r5 (is:=is) h2 e2 (cells:=bn cells off (bg v)) ?_ (gf hb g3) (by simpa using hl) h
       rw [hfold]
       exact eH off hc hcells
   · simp at hp
theorem v7 {t:Nat} {all:List (Nat×Nat)} (h:fieldsOf P t=some all):∃fs,P.underlying t=some (.struct fs) ∧
   (fs.mapM fun f=>(do pure (f.offset,←sizeOf f.type):Sem (Nat×Nat))).run P w=.ok all.toArray w:=by
 unfold fieldsOf at h
 split at h
 · rename_i fs hu
   refine ⟨fs,hu,?_⟩
   rw [Array.mapM_eq_mapM_toList]
   simp only [Sem.run_map]
   rw [x8 (g:=fun f=>(cR P f.type).map fun s=>(f.offset,s)) ?_ h]
   · rfl
   · intro f y hy
     simp only [Option.map_eq_some_iff] at hy
     obtain ⟨s,h1,rfl⟩:=hy
     simp only [Sem.run_bind,dV h1,Result.andThen_ok,Sem.run_pure]
 · simp at h
theorem x9 {t:Nat} {z:List PV} {is:List Nat} {pl:List (Nat×Nat)} {vals:List AV} {rvs:List Value} {x:AV}
   (hz:cO P t=some z) (hp:placesOf P t is=some pl) (hr:aw (num ns) G vals rvs) (hl:is.length=rvs.length) (h:bW (.build z pl) vals=some x) :
   ∃v,(Instr.build t (is.zip rvs).toArray).run P w=.ok v w∧au (num ns) G x v:=by
 obtain ⟨zv,hz1,hz2⟩:=gP (w:=w) hz
 unfold placesOf at hp
 split at hp
 · rename_i all hall
   obtain ⟨fs,hu,hm⟩:=v7 (w:=w) hall
   simp only [bW,Option.map_eq_some_iff] at h
   obtain ⟨cs,h1,rfl⟩:=h
   obtain ⟨g1,g2⟩:=iG (G:=G) (ρ:=num ns) hz2
   obtain ⟨rc,e1,e2,_⟩:=r5 (place:=(all.toArray[·]?)) (rc:=zv.cells) (by simpa using hp) hr g1 g2 hl h1
   refine ⟨.agg rc,?_,?_⟩
   · simp only [Instr.build,Sem.run_bind,hz1,Result.andThen_ok,run_underlying hu,hm]
     simp only [e1,Sem.run_pure]
   · simp only [au]
     exact ⟨rc.toList,by simp,e2⟩
 · simp at hp
theorem Rel.Ud {K:bB} {p:PV} {v:Value} (h:Rel K p v):R K true p v.cells.toList:=by
 cases p with
 | agg cs=>obtain ⟨vs,rfl,h⟩:=h;simp only [R,Value.cells];exact ⟨trivial,by simpa using h⟩
 | bool b=>have h':=h;simp only [Rel,R] at h';simp at h';subst h';simpa [Value.cells] using R.top h
 | int k n=>have h':=h;simp only [Rel,R] at h';simp at h';subst h';simpa [Value.cells] using R.top h
 | str s=>have h':=h;simp only [Rel,R] at h';simp at h';subst h';simpa [Value.cells] using R.top h
 | aE els=>
   have h':=h
   obtain ⟨b,l,c,rfl,_⟩:=cC.1 h'
   simpa [Value.cells] using R.top h
theorem oD {x:AV} {p:PV} {v:Value} (h:ky x=some p) (hr:au (num ns) G x v):Rel G.K p v:=by
 unfold ky at h
 split at h<;>simp at h<;>subst h
 · simpa only [au] using hr
 · exact eh (x:=.bJ _) rfl hr
 · exact eh (x:=.own _ _) rfl hr
theorem qp {x:AV}:dI [] x=ky x:=by
 cases x<;>simp [dI,ky]
theorem pH {x:AV} {p:PV} (h:ky x=some p) (hl:bm x=true):eA p=true:=by
 cases x with
 | pv q=>simp [ky] at h;subst h;cases q<;>simp_all [bm,eA]
 | bJ _=>simp [ky] at h;subst h;rfl
 | own _ _=>simp [ky] at h;subst h;rfl
 | _=>simp [ky] at h
theorem Rel.Jc {K:bB} {p:PV} {v:Value} (h:Rel K p v) (hl:eA p=true):R K false p [v]:=(I_ hl).1 h
theorem uG:∀{cs:List AV} {ps:List PV} {vs:List Value},d3 [] cs=some ps→aw (num ns) G cs vs→dP G.K ps vs
 | [],ps,vs,h,hr=>by simp [d3] at h;subst h;simp only [aw] at hr;simp [dP,hr]
 | c::cs,ps,vs,h,hr=>by
   simp only [d3,qp,Option.ite_none_right_eq_some] at h
   obtain ⟨hl,h⟩:=h
   split at h
   · rename_i p ps' h1 h2
     simp at h;subst h
     simp only [aw] at hr
     obtain ⟨v,r,rfl,e1,e2⟩:=hr
     simp only [dP]
     exact ⟨v,r,rfl,(oD h1 e1).Jc (pH h1 hl),uG h2 e2⟩
   · simp at h
theorem mH {x:AV} {p:PV} {v:Value} (h:dL [] x=some p) (hr:au (num ns) G x v):Rel G.K p v:=by
 cases x with
 | agg cs=>
   simp only [dL,Option.map_eq_some_iff] at h
   obtain ⟨ps,h1,rfl⟩:=h
   simp only [au] at hr
   obtain ⟨vs,rfl,hr⟩:=hr
   simp only [Rel]
   exact ⟨vs,rfl,uG h1 hr⟩
 | _=>simp only [dL,qp] at h;exact oD h hr
theorem kH:∀{xs:List AV} {ps:List PV} {vs:List Value},dT [] xs=some ps→aw (num ns) G xs vs→jl G.K ps vs
 | [],ps,vs,h,hr=>by simp [dT] at h;subst h;simp only [aw] at hr;exact hr
 | c::cs,ps,vs,h,hr=>by
   simp only [dT] at h
   split at h
   · rename_i p ps' h1 h2
     simp at h;subst h
     simp only [aw] at hr
     obtain ⟨v,r,rfl,e1,e2⟩:=hr
     exact ⟨v,r,rfl,mH h1 e1,kH h2 e2⟩
   · simp at h
def Gh.iA (G:Gh) (b:Nat) (c:Array Value):Gh:={ G with K:=fun b' o=>if b'=b then c[o]? else G.K b' o }
theorem Inv.jo {ρ:cr} {mem:List (Nat×List AV)} {sh:Sh} {ae:aH} (h:Inv ρ G w mem sh ae) {b o:Nat} {v:Value} (hk:G.K b o=some v):b<w.heap.size:=
 World.block_lt_of_cell? _ _ (h.known b o v hk)
theorem Gh.mI {ρ:cr} {mem:List (Nat×List AV)} {sh:Sh} {ae:aH} (h:Inv ρ G w mem sh ae) (c:Array Value):G.le (G.iA w.heap.size c) where
 K:=fun b o v hk=>by
   have:=h.jo hk
   simp only [Gh.iA]
   rw [if_neg (by omega)]
   exact hk
 pm:=fun _ _ h=>h
 sm:=fun _ _ h=>h
 tk:=fun _ t h=>⟨t,h,⟨Nat.le_refl _,t.gZ⟩,fun _=>rfl⟩
theorem bR {o:Obj} {b:Nat} (h:b<w.heap.size):(w.alloc o).heap[b]?=w.heap[b]?:=RowKit.Below.heap_alloc w o b h
theorem heap_alloc_new {o:Obj}:(w.alloc o).heap[w.heap.size]?=some o:=by
 show (w.heap.push o)[w.heap.size]?=some o
 simp
theorem cT {b:Nat} {o:Obj} (h:w.heap[b]?=some o):b<w.heap.size:=by
 rcases Nat.lt_or_ge b w.heap.size with h' | h'
 · exact h'
 · simp [Array.getElem?_eq_none h'] at h
theorem S_.mono {ρ:cr} {G':Gh} {w':World} {b:Nat} {r:lX} {cells:List AV} (h:S_ ρ G w b r cells) (hle:G.le G') (hr:G'.role b=G.role b) (hh:w'.heap[b]?=w.heap[b]?):S_ ρ G' w' b r cells:=by
 obtain ⟨h1,c,t,h2,h3⟩:=h
 exact ⟨hr.trans h1,c,t,hh.trans h2,aw.mono hle h3⟩
theorem vZ.mono {ρ:cr} {G':Gh} {w':World} {b:Nat×Nat} {r:lX} {cells:List AV} (h:vZ ρ G w b r cells) (hle:G.le G') (hr:G'.role b.1=G.role b.1) (hh:w'.heap[b.1]?=w.heap[b.1]?):vZ ρ G' w' b r cells:=by
 obtain ⟨h1,o,h2,h3⟩:=h
 exact ⟨hr.trans h1,o,hh.trans h2,h3.mono hle⟩
theorem vZ.lt {ρ:cr} {b:Nat×Nat} {r:lX} {cells:List AV} (h:vZ ρ G w b r cells):b.1<w.heap.size:=by
 obtain ⟨_,o,h2,_⟩:=h
 exact cT h2
theorem Inv.l0 {ρ:cr} {mem:List (Nat×List AV)} {sh:Sh} {ae:aH} (h:Inv ρ G w mem sh ae) (c:Array Value) (t:TypeId) :
   Inv ρ (G.iA w.heap.size c) (w.alloc (.cells c t)) mem sh ae:=by
 have hle:=Gh.mI h c
 constructor
 · intro b o v hk
   simp only [Gh.iA] at hk
   split at hk
   · rename_i hb;subst hb
     simp [hk]
   · rw [World.cell?_alloc_old]
     · exact h.known b o v hk
     · simpa using ‹¬b=w.heap.size›
 · intro b o v hk
   simp only [Gh.iA] at hk
   split at hk
   · rename_i hb;subst hb
     exact .inl (h.fresh _ (Nat.le_refl _))
   · exact h.bt b o v hk
 · intro b hb
   simp at hb
   exact h.fresh b (by omega)
 · intro d cells hd
   obtain ⟨b,e1,e2,e3⟩:=h.cW d cells hd
   have hb:b<w.heap.size:=by obtain ⟨c,t,hh,_⟩:=e2.at_;exact cT hh
   exact ⟨b,e1,e2.mono hle rfl (bR hb),e3⟩
 · exact h.g_
 · intro d cells hd
   obtain ⟨b,e1,e2,e3⟩:=h.dp d cells hd
   have hb:b.1<w.heap.size:=e2.lt
   exact ⟨b,e1,e2.mono hle rfl (bR hb),e3⟩
 · exact h.eR
 · intro τ n hn
   obtain ⟨tk,e1,e2,e3⟩:=h.di τ n hn
   refine ⟨tk,e1,e2,e3.cap,e3.zero,fun hlt=>?_⟩
   obtain ⟨b,o,cc,ty,f1,f2,f3,f4,f5⟩:=e3.spare hlt
   have hb:=cT f3
   refine ⟨b,o,cc,ty,f1,f2,(bR hb).trans f3,f4,fun j v hk=>f5 j v ?_⟩
   simp only [Gh.iA] at hk
   rwa [if_neg (by omega)] at hk
 · exact h.fo
theorem bZ.l0 {ρ:cr} {mem:List (Nat×List AV)} {sh:Sh} {ae:aH} (h:Inv ρ G w mem sh ae) (c:Array Value) (t:TypeId) :
   bZ G w (G.iA w.heap.size c) (w.alloc (.cells c t)) where
 size:=by simp
 os:=rfl
 tape:=rfl
 output:=rfl
 K:=(Gh.mI h c).K
 sm:=fun _ _ h=>h
 d_:=fun b hb hr=>⟨hr,bR hb⟩
 iT:=fun b τ _ hr=>.inr ⟨τ,hr⟩
 hH:=fun b o v hb _ hk=>by
   simp only [Gh.iA] at hk
   rwa [if_neg (by omega)] at hk
theorem MJ {b:Nat} {l:List Value}:At (G.iA b l.toArray).K b 0 l:=by
 intro j v hj
 simp only [Gh.iA,if_true,Nat.zero_add]
 simpa using hj
end
end Go.Ab
