import Derived.Test.YtcjggpmnbcfedaaDoorAbOps2
/-
  Literals, cuts, and the rest of the operations on values.
-/
set_option linter.unusedVariables false
set_option linter.unusedSimpArgs false
set_option linter.unnecessarySimpa false
set_option maxRecDepth 100000
set_option maxHeartbeats 8000000
namespace Go.Ab
section
variable {P:Program} {ns:Names} {G:Gh} {w:World}
theorem dG {α β:Type} {f:α→Option β}:∀{l:List α} {r:List β},bu f l=some r→r.length=l.length
 | [],_,h=>by simp [bu] at h;subst h;rfl
 | x::l,r,h=>by
   simp only [bu] at h
   split at h
   · rename_i y ys h1 h2
     simp at h;subst h
     simp [dG h2]
   · simp at h
theorem oW {α β:Type} {f:α→Option β}:∀{l:List α} {r:List β},bu f l=some r→∀{i:Nat} {x:α},l[i]?=some x→∃y,r[i]?=some y∧f x=some y
 | [],_,_,i,x,hx=>by simp at hx
 | a::l,r,h,i,x,hx=>by
   simp only [bu] at h
   split at h
   · rename_i y ys h1 h2
     simp at h;subst h
     cases i with
     | zero=>simp at hx;subst hx;exact ⟨y,by simp,h1⟩
     | succ i=>simpa using oW h2 (by simpa using hx)
   · simp at h
theorem oX {α β:Type} {f:α→Sem β} {g:α→Option β} (hf:∀x y,g x=some y→(f x).run P w=.ok y w):∀{l:List α} {r:List β},
   bu g l=some r→(l.mapM f).run P w=.ok r w
 | [],_,h=>by simp [bu] at h;subst h;simp
 | x::l,r,h=>by
   simp only [bu] at h
   split at h
   · rename_i y ys h1 h2
     simp at h;subst h
     simp only [List.mapM_cons,Sem.run_bind,hf x y h1,Result.andThen_ok,oX hf h2,Sem.run_pure]
   · simp at h
theorem dH {t:Nat} {z:List PV} (h:bc P t=some z):∃zv,(zeroValue t).run P w=.ok zv w∧bu bW zv.cells.toList=some z:=by
 unfold bc at h
 split at h
 · rename_i zv hz
   cases hi:P.info? t with
   | none=>simp [hi] at hz
   | some i=>
     simp [hi] at hz
     exact ⟨zv,by simp [zeroValue,typeInfo,hi,hz],h⟩
 · simp at h
theorem nz {ρ:aX} {v:Value} {p:PV} (h:bW v=some p):ah ρ G (aV.zeroCell p) v∧aA (aV.zeroCell p)=true:=by
 obtain ⟨h1,h2⟩:=eT (K:=G.K) h
 unfold aV.zeroCell
 split
 · refine ⟨?_,rfl⟩
   cases v with
   | slice a l c=>
     cases a with
     | some a=>simp [bW] at h
     | none=>
       cases l with
       | succ l=>simp [bW] at h
       | zero=>
         cases c with
         | succ c=>simp [bW] at h
         | zero=>simp only [ah];exact ⟨none,0,rfl,rfl,.inl rfl⟩
   | _=>simp [bW] at h
 · refine ⟨by simp only [ah];exact Rel.wW h1,?_⟩
   cases p<;>simp_all [aA,dY]
theorem ea {ρ:aX}:∀{l:List Value} {z:List PV},bu bW l=some z→ae ρ G (z.map aV.zeroCell) l∧(z.map aV.zeroCell).all aA=true
 | [],_,h=>by simp [bu] at h;subst h;simp [ae]
 | v::l,z,h=>by
   simp only [bu] at h
   split at h
   · rename_i y ys h1 h2
     simp at h;subst h
     obtain ⟨g1,g2⟩:=ea (ρ:=ρ) h2
     obtain ⟨g3,g4⟩:=nz (G:=G) (ρ:=ρ) h1
     simp only [List.map_cons,ae,List.all_cons,g4,g2,Bool.and_true,and_true]
     exact ⟨v,l,rfl,g3,g1⟩
   · simp at h
theorem jJ (off:Nat):∀(l:List Value) (k:Nat) (cs:Array Value),off+k+l.length≤cs.size →
   ((l.zipIdx k).foldl (fun cs (x:Value×Nat)=>cs.setIfInBounds (off+x.2) x.1) cs).toList=cs.toList.take (off+k)++l++cs.toList.drop (off+k+l.length)
 | [],k,cs,_=>by simp
 | v::l,k,cs,h=>by
   simp only [List.zipIdx_cons,List.foldl_cons]
   have h':off+(k+1)+l.length≤(cs.setIfInBounds (off+k) v).size:=by simp at h ⊢;omega
   rw [jJ off l (k+1) _ h']
   have:=list_seg_step cs.toList (off+k) v l (by simp at h ⊢;omega)
   simpa [Array.toList_setIfInBounds,Nat.add_assoc] using this
theorem cG {ρ:aX} {cs:List AV} {l:List Value} (off:Nat) {us:List AV} {vs:List Value} (h:ae ρ G cs l) (k:ae ρ G us vs) :
   ae ρ G (aD cs off us) (l.take off++vs++l.drop (off+vs.length)):=by
 unfold aD
 rw [←k.length]
 exact ae.append (ae.append (h.take off) k) (h.drop _)
theorem dp {B:AV→Bool} {cs us:List AV} {off:Nat} (h:cs.all B=true) (k:us.all B=true):(aD cs off us).all B=true:=by
 unfold aD
 rw [List.all_eq_true] at *
 intro x hx
 simp only [List.mem_append] at hx
 rcases hx with (hx | hx) | hx
 · exact h x (List.mem_of_mem_take hx)
 · exact k x hx
 · exact h x (List.mem_of_mem_drop hx)
theorem lq {place:Nat→Option (Nat×Nat)}:∀{is:List Nat} {pl:List (Nat×Nat)} {vals:List AV} {rvs:List Value} {cells:List AV} {rc:Array Value} {cs:List AV},
   bu place is=some pl→ae (num ns) G vals rvs→ae (num ns) G cells rc.toList→cells.all aA=true→is.length=rvs.length→je cells pl vals=some cs →
   ∃rc',Instr.fill place rc (is.zip rvs)=some rc'∧ae (num ns) G cs rc'.toList∧cs.all aA=true
 | [],pl,vals,rvs,cells,rc,cs,hp,hv,hc,hb,hl,h=>by
   simp [bu] at hp;subst hp
   have:rvs=[]:=by cases rvs<;>simp_all
   subst this
   have:=hv.length
   have:vals=[]:=by cases vals<;>simp_all
   subst this
   simp [je] at h;subst h
   exact ⟨rc,by simp [Instr.fill],hc,hb⟩
 | i::is,pl,vals,rvs,cells,rc,cs,hp,hv,hc,hb,hl,h=>by
   simp only [bu] at hp
   split at hp
   · rename_i y ys h1 h2
     simp at hp;subst hp
     obtain ⟨off,sz⟩:=y
     cases vals with
     | nil=>simp [je] at h
     | cons v vals=>
       simp only [ae] at hv
       obtain ⟨rv,rr,rfl,e1,e2⟩:=hv
       simp only [je,Option.ite_none_right_eq_some] at h
       obtain ⟨⟨g1,g2,g3⟩,h⟩:=h
       have hcells:=e1.cells g3
       have hlen:=hcells.length
       have hsz:rv.cells.size=sz:=by rw [←g1,←hlen];simp
       have hrc:rc.size=cells.length:=by have:=hc.length;simpa using this
       simp only [List.zip_cons_cons,Instr.fill,h1]
       have hcond:(decide (rv.cells.size≠sz) || decide (off+rv.cells.size > rc.size))=false:=by
         simp [hsz];omega
       have hfold:(rv.cells.zipIdx.foldl (fun cs (x:Value×Nat)=>cs.setIfInBounds (off+x.2) x.1) rc).toList=rc.toList.take off++rv.cells.toList++rc.toList.drop (off+rv.cells.toList.length):=by
         have:=jJ off rv.cells.toList 0 rc (by simp;omega)
         rw [←Array.foldl_toList]
         simpa using this
       rw [if_neg (by simp [hsz];omega)]
       refine lq (is:=is) h2 e2 (cells:=aD cells off (au v)) ?_ (dp hb g3) (by simpa using hl) h
       rw [hfold]
       exact cG off hc hcells
   · simp at hp
theorem nA {t:Nat} {all:List (Nat×Nat)} (h:fieldsOf P t=some all):∃fs,P.underlying t=some (.struct fs) ∧
   (fs.mapM fun f=>(do pure (f.offset,←sizeOf f.type):Sem (Nat×Nat))).run P w=.ok all.toArray w:=by
 unfold fieldsOf at h
 split at h
 · rename_i fs hu
   refine ⟨fs,hu,?_⟩
   rw [Array.mapM_eq_mapM_toList]
   simp only [Sem.run_map]
   rw [oX (g:=fun f=>(bt P f.type).map fun s=>(f.offset,s)) ?_ h]
   · rfl
   · intro f y hy
     simp only [Option.map_eq_some_iff] at hy
     obtain ⟨s,h1,rfl⟩:=hy
     simp only [Sem.run_bind,bT h1,Result.andThen_ok,Sem.run_pure]
 · simp at h
theorem oY {t:Nat} {z:List PV} {is:List Nat} {pl:List (Nat×Nat)} {vals:List AV} {rvs:List Value} {x:AV}
   (hz:bc P t=some z) (hp:placesOf P t is=some pl) (hr:ae (num ns) G vals rvs) (hl:is.length=rvs.length) (h:aV (.build z pl) vals=some x) :
   ∃v,(Instr.build t (is.zip rvs).toArray).run P w=.ok v w∧ah (num ns) G x v:=by
 obtain ⟨zv,hz1,hz2⟩:=dH (w:=w) hz
 unfold placesOf at hp
 split at hp
 · rename_i all hall
   obtain ⟨fs,hu,hm⟩:=nA (w:=w) hall
   simp only [aV,Option.map_eq_some_iff] at h
   obtain ⟨cs,h1,rfl⟩:=h
   obtain ⟨g1,g2⟩:=ea (G:=G) (ρ:=num ns) hz2
   obtain ⟨rc,e1,e2,_⟩:=lq (place:=(all.toArray[·]?)) (rc:=zv.cells) (by simpa using hp) hr g1 g2 hl h1
   refine ⟨.agg rc,?_,?_⟩
   · simp only [Instr.build,Sem.run_bind,hz1,Result.andThen_ok,run_underlying hu,hm]
     simp only [e1,Sem.run_pure]
   · simp only [ah]
     exact ⟨rc.toList,by simp,e2⟩
 · simp at hp
theorem Rel.Cs {K:aF} {p:PV} {v:Value} (h:Rel K p v):R K true p v.cells.toList:=by
 cases p with
 | agg cs=>obtain ⟨vs,rfl,h⟩:=h;simp only [R,Value.cells];exact ⟨trivial,by simpa using h⟩
 | bool b=>have h':=h;simp only [Rel,R] at h';simp at h';subst h';simpa [Value.cells] using R.top h
 | int k n=>have h':=h;simp only [Rel,R] at h';simp at h';subst h';simpa [Value.cells] using R.top h
 | str s=>have h':=h;simp only [Rel,R] at h';simp at h';subst h';simpa [Value.cells] using R.top h
 | bz els=>
   have h':=h
   obtain ⟨b,l,c,rfl,_⟩:=aZ.1 h'
   simpa [Value.cells] using R.top h
theorem jj {x:AV} {p:PV} {v:Value} (h:jI x=some p) (hr:ah (num ns) G x v):Rel G.K p v:=by
 unfold jI at h
 split at h<;>simp at h<;>subst h
 · simpa only [ah] using hr
 · exact cg (x:=.cw _) rfl hr
 · exact cg (x:=.own _ _) rfl hr
theorem j6 {x:AV}:cK [] x=jI x:=by
 cases x<;>simp [cK,jI]
theorem jK {x:AV} {p:PV} (h:jI x=some p) (hl:aA x=true):dY p=true:=by
 cases x with
 | pv q=>simp [jI] at h;subst h;cases q<;>simp_all [aA,dY]
 | cw _=>simp [jI] at h;subst h;rfl
 | own _ _=>simp [jI] at h;subst h;rfl
 | _=>simp [jI] at h
theorem Rel.wY {K:aF} {p:PV} {v:Value} (h:Rel K p v) (hl:dY p=true):R K false p [v]:=(wV hl).1 h
theorem mO:∀{cs:List AV} {ps:List PV} {vs:List Value},eO [] cs=some ps→ae (num ns) G cs vs→bM G.K ps vs
 | [],ps,vs,h,hr=>by simp [eO] at h;subst h;simp only [ae] at hr;simp [bM,hr]
 | c::cs,ps,vs,h,hr=>by
   simp only [eO,j6,Option.ite_none_right_eq_some] at h
   obtain ⟨hl,h⟩:=h
   split at h
   · rename_i p ps' h1 h2
     simp at h;subst h
     simp only [ae] at hr
     obtain ⟨v,r,rfl,e1,e2⟩:=hr
     simp only [bM]
     exact ⟨v,r,rfl,(jj h1 e1).wY (jK h1 hl),mO h2 e2⟩
   · simp at h
theorem iz {x:AV} {p:PV} {v:Value} (h:gX [] x=some p) (hr:ah (num ns) G x v):Rel G.K p v:=by
 cases x with
 | agg cs=>
   simp only [gX,Option.map_eq_some_iff] at h
   obtain ⟨ps,h1,rfl⟩:=h
   simp only [ah] at hr
   obtain ⟨vs,rfl,hr⟩:=hr
   simp only [Rel]
   exact ⟨vs,rfl,mO h1 hr⟩
 | _=>simp only [gX,j6] at h;exact jj h hr
theorem gq:∀{xs:List AV} {ps:List PV} {vs:List Value},bZ [] xs=some ps→ae (num ns) G xs vs→fl G.K ps vs
 | [],ps,vs,h,hr=>by simp [bZ] at h;subst h;simp only [ae] at hr;exact hr
 | c::cs,ps,vs,h,hr=>by
   simp only [bZ] at h
   split at h
   · rename_i p ps' h1 h2
     simp at h;subst h
     simp only [ae] at hr
     obtain ⟨v,r,rfl,e1,e2⟩:=hr
     exact ⟨v,r,rfl,iz h1 e1,gq h2 e2⟩
   · simp at h
def Gh.jk (G:Gh) (b:Nat) (c:Array Value):Gh:={ G with K:=fun b' o=>if b'=b then c[o]? else G.K b' o }
theorem Inv.eU {ρ:aX} {mem:List (Nat×List AV)} {sh:Sh} {aa:al} (h:Inv ρ G w mem sh aa) {b o:Nat} {v:Value} (hk:G.K b o=some v):b<w.heap.size:=
 World.block_lt_of_cell? _ _ (h.known b o v hk)
theorem Gh.iA {ρ:aX} {mem:List (Nat×List AV)} {sh:Sh} {aa:al} (h:Inv ρ G w mem sh aa) (c:Array Value):G.le (G.jk w.heap.size c) where
 K:=fun b o v hk=>by
   have:=h.eU hk
   simp only [Gh.jk]
   rw [if_neg (by omega)]
   exact hk
 pm:=fun _ _ h=>h
 sm:=fun _ _ h=>h
 tk:=fun _ t h=>⟨t,h,⟨Nat.le_refl _,t.dO⟩,fun _=>rfl⟩
theorem aH {o:Obj} {b:Nat} (h:b<w.heap.size):(w.alloc o).heap[b]?=w.heap[b]?:=RowKit.Below.heap_alloc w o b h
theorem heap_alloc_new {o:Obj}:(w.alloc o).heap[w.heap.size]?=some o:=by
 show (w.heap.push o)[w.heap.size]?=some o
 simp
theorem bg {b:Nat} {o:Obj} (h:w.heap[b]?=some o):b<w.heap.size:=by
 rcases Nat.lt_or_ge b w.heap.size with h' | h'
 · exact h'
 · simp [Array.getElem?_eq_none h'] at h
theorem B4.mono {ρ:aX} {G':Gh} {w':World} {b:Nat} {r:h_} {cells:List AV} (h:B4 ρ G w b r cells) (hle:G.le G') (hr:G'.role b=G.role b) (hh:w'.heap[b]?=w.heap[b]?):B4 ρ G' w' b r cells:=by
 obtain ⟨h1,c,t,h2,h3⟩:=h
 exact ⟨hr.trans h1,c,t,hh.trans h2,ae.mono hle h3⟩
theorem nw.mono {ρ:aX} {G':Gh} {w':World} {b:Nat×Nat} {r:h_} {cells:List AV} (h:nw ρ G w b r cells) (hle:G.le G') (hr:G'.role b.1=G.role b.1) (hh:w'.heap[b.1]?=w.heap[b.1]?):nw ρ G' w' b r cells:=by
 obtain ⟨h1,o,h2,h3⟩:=h
 exact ⟨hr.trans h1,o,hh.trans h2,h3.mono hle⟩
theorem nw.lt {ρ:aX} {b:Nat×Nat} {r:h_} {cells:List AV} (h:nw ρ G w b r cells):b.1<w.heap.size:=by
 obtain ⟨_,o,h2,_⟩:=h
 exact bg h2
theorem Inv.ie {ρ:aX} {mem:List (Nat×List AV)} {sh:Sh} {aa:al} (h:Inv ρ G w mem sh aa) (c:Array Value) (t:TypeId) :
   Inv ρ (G.jk w.heap.size c) (w.alloc (.cells c t)) mem sh aa:=by
 have hle:=Gh.iA h c
 constructor
 · intro b o v hk
   simp only [Gh.jk] at hk
   split at hk
   · rename_i hb;subst hb
     simp [hk]
   · rw [World.cell?_alloc_old]
     · exact h.known b o v hk
     · simpa using ‹¬b=w.heap.size›
 · intro b o v hk
   simp only [Gh.jk] at hk
   split at hk
   · rename_i hb;subst hb
     exact .inl (h.fresh _ (Nat.le_refl _))
   · exact h.aC b o v hk
 · intro b hb
   simp at hb
   exact h.fresh b (by omega)
 · intro d cells hd
   obtain ⟨b,e1,e2,e3⟩:=h.bp d cells hd
   have hb:b<w.heap.size:=by obtain ⟨c,t,hh,_⟩:=e2.at_;exact bg hh
   exact ⟨b,e1,e2.mono hle rfl (aH hb),e3⟩
 · exact h.dX
 · intro d cells hd
   obtain ⟨b,e1,e2,e3⟩:=h.bD d cells hd
   have hb:b.1<w.heap.size:=e2.lt
   exact ⟨b,e1,e2.mono hle rfl (aH hb),e3⟩
 · exact h.cN
 · intro τ n hn
   obtain ⟨tk,e1,e2,e3⟩:=h.bE τ n hn
   refine ⟨tk,e1,e2,e3.cap,e3.zero,fun hlt=>?_⟩
   obtain ⟨b,o,cc,ty,f1,f2,f3,f4,f5⟩:=e3.spare hlt
   have hb:=bg f3
   refine ⟨b,o,cc,ty,f1,f2,(aH hb).trans f3,f4,fun j v hk=>f5 j v ?_⟩
   simp only [Gh.jk] at hk
   rwa [if_neg (by omega)] at hk
 · exact h.cY
 · intro b c' hb
   obtain ⟨h1,t',z,h2⟩:=h.hP b c' hb
   exact ⟨h1,t',z,(aH (Array.getElem?_eq_some_iff.1 h2).1).trans h2⟩
theorem aN.ie {ρ:aX} {mem:List (Nat×List AV)} {sh:Sh} {aa:al} (h:Inv ρ G w mem sh aa) (c:Array Value) (t:TypeId) :
   aN G w (G.jk w.heap.size c) (w.alloc (.cells c t)) where
 size:=by simp
 os:=rfl
 tape:=rfl
 output:=rfl
 K:=(Gh.iA h c).K
 sm:=fun _ _ h=>h
 b_:=fun b hb hr=>⟨hr,aH hb⟩
 ew:=fun b τ _ hr=>.inr ⟨τ,hr⟩
 dP:=fun b o v hb _ hk=>by
   simp only [Gh.jk] at hk
   rwa [if_neg (by omega)] at hk
theorem y9 {b:Nat} {l:List Value}:At (G.jk b l.toArray).K b 0 l:=by
 intro j v hj
 simp only [Gh.jk,if_true,Nat.zero_add]
 simpa using hj
end
end Go.Ab
