import Derived.Test.YtcjggpmnbcfedaaDoorAbOps2
/-
  Literals, cuts, and the rest of the operations on values.
-/
set_option linter.unusedVariables false
set_option linter.unusedSimpArgs false
set_option maxRecDepth 100000
set_option maxHeartbeats 8000000
namespace Go.Ab
section
variable {P:Program} {ns:Names} {G:Gh} {w:World}
theorem eV {α β:Type} {f:α→Option β}:∀{l:List α} {r:List β},cK f l=some r→r.length=l.length
 | [],_,h=>by simp [cK] at h;subst h;rfl
 | x::l,r,h=>by
   simp only [cK] at h
   split at h
   · rename_i y ys h1 h2
     simp at h;subst h
     simp [eV h2]
   · simp at h
theorem pX {α β:Type} {f:α→Option β}:∀{l:List α} {r:List β},cK f l=some r→∀{i:Nat} {x:α},l[i]?=some x→∃y,r[i]?=some y∧f x=some y
 | [],_,_,i,x,hx=>by simp at hx
 | a::l,r,h,i,x,hx=>by
   simp only [cK] at h
   split at h
   · rename_i y ys h1 h2
     simp at h;subst h
     cases i with
     | zero=>simp at hx;subst hx;exact ⟨y,by simp,h1⟩
     | succ i=>simpa using pX h2 (by simpa using hx)
   · simp at h
theorem pY {α β:Type} {f:α→Sem β} {g:α→Option β} (hf:∀x y,g x=some y→(f x).run P w=.ok y w):∀{l:List α} {r:List β},
   cK g l=some r→(l.mapM f).run P w=.ok r w
 | [],_,h=>by simp [cK] at h;subst h;simp
 | x::l,r,h=>by
   simp only [cK] at h
   split at h
   · rename_i y ys h1 h2
     simp at h;subst h
     simp only [List.mapM_cons,Sem.run_bind,hf x y h1,Result.andThen_ok,pY hf h2,Sem.run_pure]
   · simp at h
theorem eO {t:Nat} {z:List PV} (h:bU P t=some z):∃zv,(zeroValue t).run P w=.ok zv w∧cK cJ zv.cells.toList=some z:=by
 unfold bU at h
 split at h
 · rename_i zv hz
   cases hi:P.info? t with
   | none=>simp [hi] at hz
   | some i=>
     simp [hi] at hz
     exact ⟨zv,by simp [zeroValue,typeInfo,hi,hz],h⟩
 · simp at h
theorem ou {ρ:bw} {v:Value} {p:PV} (h:cJ v=some p):al ρ G (a_.zeroCell p) v∧aG (a_.zeroCell p)=true:=by
 obtain ⟨h1,h2⟩:=fG (K:=G.K) h
 unfold a_.zeroCell
 split
 · refine ⟨?_,rfl⟩
   cases v with
   | slice a l c=>
     cases a with
     | some a=>simp [cJ] at h
     | none=>
       cases l with
       | succ l=>simp [cJ] at h
       | zero=>
         cases c with
         | succ c=>simp [cJ] at h
         | zero=>simp only [al];exact ⟨none,0,rfl,rfl,.inl rfl⟩
   | _=>simp [cJ] at h
 · refine ⟨by simp only [al];exact Rel.zP h1,?_⟩
   cases p<;>simp_all [aG,e8]
theorem eS {ρ:bw}:∀{l:List Value} {z:List PV},cK cJ l=some z→ae ρ G (z.map a_.zeroCell) l∧(z.map a_.zeroCell).all aG=true
 | [],_,h=>by simp [cK] at h;subst h;simp [ae]
 | v::l,z,h=>by
   simp only [cK] at h
   split at h
   · rename_i y ys h1 h2
     simp at h;subst h
     obtain ⟨g1,g2⟩:=eS (ρ:=ρ) h2
     obtain ⟨g3,g4⟩:=ou (G:=G) (ρ:=ρ) h1
     simp only [List.map_cons,ae,List.all_cons,g4,g2,Bool.and_true,and_true]
     exact ⟨v,l,rfl,g3,g1⟩
   · simp at h
theorem kx (off:Nat):∀(l:List Value) (k:Nat) (cs:Array Value),off+k+l.length≤cs.size →
   ((l.zipIdx k).foldl (fun cs (x:Value×Nat)=>cs.setIfInBounds (off+x.2) x.1) cs).toList=cs.toList.take (off+k)++l++cs.toList.drop (off+k+l.length)
 | [],k,cs,_=>by simp
 | v::l,k,cs,h=>by
   simp only [List.zipIdx_cons,List.foldl_cons]
   have h':off+(k+1)+l.length≤(cs.setIfInBounds (off+k) v).size:=by simp at h ⊢;omega
   rw [kx off l (k+1) _ h']
   have:=list_seg_step cs.toList (off+k) v l (by simp at h ⊢;omega)
   simpa [Array.toList_setIfInBounds,Nat.add_assoc] using this
theorem dN {ρ:bw} {cs:List AV} {l:List Value} (off:Nat) {us:List AV} {vs:List Value} (h:ae ρ G cs l) (k:ae ρ G us vs) :
   ae ρ G (aN cs off us) (l.take off++vs++l.drop (off+vs.length)):=by
 unfold aN
 rw [←k.length]
 exact ae.append (ae.append (h.take off) k) (h.drop _)
theorem fh {B:AV→Bool} {cs us:List AV} {off:Nat} (h:cs.all B=true) (k:us.all B=true):(aN cs off us).all B=true:=by
 unfold aN
 rw [List.all_eq_true] at *
 intro x hx
 simp only [List.mem_append] at hx
 rcases hx with (hx | hx) | hx
 · exact h x (List.mem_of_mem_take hx)
 · exact k x hx
 · exact h x (List.mem_of_mem_drop hx)
theorem l9 {place:Nat→Option (Nat×Nat)}:∀{is:List Nat} {pl:List (Nat×Nat)} {vals:List AV} {rvs:List Value} {cells:List AV} {rc:Array Value} {cs:List AV},
   cK place is=some pl→ae (num ns) G vals rvs→ae (num ns) G cells rc.toList→cells.all aG=true→is.length=rvs.length→ik cells pl vals=some cs →
   ∃rc',Instr.fill place rc (is.zip rvs)=some rc'∧ae (num ns) G cs rc'.toList∧cs.all aG=true
 | [],pl,vals,rvs,cells,rc,cs,hp,hv,hc,hb,hl,h=>by
   simp [cK] at hp;subst hp
   have:rvs=[]:=by cases rvs<;>simp_all
   subst this
   have:=hv.length
   have:vals=[]:=by cases vals<;>simp_all
   subst this
   simp [ik] at h;subst h
   exact ⟨rc,by simp [Instr.fill],hc,hb⟩
 | i::is,pl,vals,rvs,cells,rc,cs,hp,hv,hc,hb,hl,h=>by
   simp only [cK] at hp
   split at hp
   · rename_i y ys h1 h2
     simp at hp;subst hp
     obtain ⟨off,sz⟩:=y
     cases vals with
     | nil=>simp [ik] at h
     | cons v vals=>
       simp only [ae] at hv
       obtain ⟨rv,rr,rfl,e1,e2⟩:=hv
       simp only [ik,Option.ite_none_right_eq_some] at h
       obtain ⟨⟨g1,g2,g3⟩,h⟩:=h
       have hcells:=e1.cells g3
       have hlen:=hcells.length
       have hsz:rv.cells.size=sz:=by rw [←g1,←hlen];simp
       have hrc:rc.size=cells.length:=by have:=hc.length;simpa using this
       simp only [List.zip_cons_cons,Instr.fill,h1]
       have hcond:(decide (rv.cells.size≠sz) || decide (off+rv.cells.size > rc.size))=false:=by
         simp [hsz];omega
       have hfold:(rv.cells.zipIdx.foldl (fun cs (x:Value×Nat)=>cs.setIfInBounds (off+x.2) x.1) rc).toList=rc.toList.take off++rv.cells.toList++rc.toList.drop (off+rv.cells.toList.length):=by
         have:=kx off rv.cells.toList 0 rc (by simp;omega)
         rw [←Array.foldl_toList]
         simpa using this
       rw [if_neg (by simp [hsz];omega)]
       refine l9 (is:=is) h2 e2 (cells:=aN cells off (aL v)) ?_ (fh hb g3) (by simpa using hl) h
       rw [hfold]
       exact dN off hc hcells
   · simp at hp
theorem oz {t:Nat} {all:List (Nat×Nat)} (h:fieldsOf P t=some all):∃fs,P.underlying t=some (.struct fs) ∧
   (fs.mapM fun f=>(do pure (f.offset,←sizeOf f.type):Sem (Nat×Nat))).run P w=.ok all.toArray w:=by
 unfold fieldsOf at h
 split at h
 · rename_i fs hu
   refine ⟨fs,hu,?_⟩
   rw [Array.mapM_eq_mapM_toList]
   simp only [Sem.run_map]
   rw [pY (g:=fun f=>(cu P f.type).map fun s=>(f.offset,s)) ?_ h]
   · rfl
   · intro f y hy
     simp only [Option.map_eq_some_iff] at hy
     obtain ⟨s,h1,rfl⟩:=hy
     simp only [Sem.run_bind,cR h1,Result.andThen_ok,Sem.run_pure]
 · simp at h
theorem pZ {t:Nat} {z:List PV} {is:List Nat} {pl:List (Nat×Nat)} {vals:List AV} {rvs:List Value} {x:AV}
   (hz:bU P t=some z) (hp:placesOf P t is=some pl) (hr:ae (num ns) G vals rvs) (hl:is.length=rvs.length) (h:a_ (.build z pl) vals=some x) :
   ∃v,(Instr.build t (is.zip rvs).toArray).run P w=.ok v w∧al (num ns) G x v:=by
 obtain ⟨zv,hz1,hz2⟩:=eO (w:=w) hz
 unfold placesOf at hp
 split at hp
 · rename_i all hall
   obtain ⟨fs,hu,hm⟩:=oz (w:=w) hall
   simp only [a_,Option.map_eq_some_iff] at h
   obtain ⟨cs,h1,rfl⟩:=h
   obtain ⟨g1,g2⟩:=eS (G:=G) (ρ:=num ns) hz2
   obtain ⟨rc,e1,e2,_⟩:=l9 (place:=(all.toArray[·]?)) (rc:=zv.cells) (by simpa using hp) hr g1 g2 hl h1
   refine ⟨.agg rc,?_,?_⟩
   · simp only [Instr.build,Sem.run_bind,hz1,Result.andThen_ok,run_underlying hu,hm]
     simp only [e1,Sem.run_pure]
   · simp only [al]
     exact ⟨rc.toList,by simp,e2⟩
 · simp at hp
theorem Rel.Gk {K:aU} {p:PV} {v:Value} (h:Rel K p v):R K true p v.cells.toList:=by
 cases p with
 | agg cs=>obtain ⟨vs,rfl,h⟩:=h;simp only [R,Value.cells];exact ⟨trivial,by simpa using h⟩
 | bool b=>have h':=h;simp only [Rel,R] at h';simp at h';subst h';simpa [Value.cells] using R.top h
 | int k n=>have h':=h;simp only [Rel,R] at h';simp at h';subst h';simpa [Value.cells] using R.top h
 | str s=>have h':=h;simp only [Rel,R] at h';simp at h';subst h';simpa [Value.cells] using R.top h
 | a8 els=>
   have h':=h
   obtain ⟨b,l,c,rfl,_⟩:=bu.1 h'
   simpa [Value.cells] using R.top h
theorem jU {x:AV} {p:PV} {v:Value} (h:jd x=some p) (hr:al (num ns) G x v):Rel G.K p v:=by
 unfold jd at h
 split at h<;>simp at h<;>subst h
 · simpa only [al] using hr
 · exact cY (x:=.cg _) rfl hr
 · exact cY (x:=.own _ _) rfl hr
theorem kT {x:AV}:cq [] x=jd x:=by
 cases x<;>simp [cq,jd]
theorem ky {x:AV} {p:PV} (h:jd x=some p) (hl:aG x=true):e8 p=true:=by
 cases x with
 | pv q=>simp [jd] at h;subst h;cases q<;>simp_all [aG,e8]
 | cg _=>simp [jd] at h;subst h;rfl
 | own _ _=>simp [jd] at h;subst h;rfl
 | _=>simp [jd] at h
theorem Rel.zR {K:aU} {p:PV} {v:Value} (h:Rel K p v) (hl:e8 p=true):R K false p [v]:=(zO hl).1 h
theorem nE:∀{cs:List AV} {ps:List PV} {vs:List Value},dF [] cs=some ps→ae (num ns) G cs vs→cw G.K ps vs
 | [],ps,vs,h,hr=>by simp [dF] at h;subst h;simp only [ae] at hr;simp [cw,hr]
 | c::cs,ps,vs,h,hr=>by
   simp only [dF,kT,Option.ite_none_right_eq_some] at h
   obtain ⟨hl,h⟩:=h
   split at h
   · rename_i p ps' h1 h2
     simp at h;subst h
     simp only [ae] at hr
     obtain ⟨v,r,rfl,e1,e2⟩:=hr
     simp only [cw]
     exact ⟨v,r,rfl,(jU h1 e1).zR (ky h1 hl),nE h2 e2⟩
   · simp at h
theorem iT {x:AV} {p:PV} {v:Value} (h:eF [] x=some p) (hr:al (num ns) G x v):Rel G.K p v:=by
 cases x with
 | agg cs=>
   simp only [eF,Option.map_eq_some_iff] at h
   obtain ⟨ps,h1,rfl⟩:=h
   simp only [al] at hr
   obtain ⟨vs,rfl,hr⟩:=hr
   simp only [Rel]
   exact ⟨vs,rfl,nE h1 hr⟩
 | _=>simp only [eF,kT] at h;exact jU h hr
theorem gQ:∀{xs:List AV} {ps:List PV} {vs:List Value},ca [] xs=some ps→ae (num ns) G xs vs→ga G.K ps vs
 | [],ps,vs,h,hr=>by simp [ca] at h;subst h;simp only [ae] at hr;exact hr
 | c::cs,ps,vs,h,hr=>by
   simp only [ca] at h
   split at h
   · rename_i p ps' h1 h2
     simp at h;subst h
     simp only [ae] at hr
     obtain ⟨v,r,rfl,e1,e2⟩:=hr
     exact ⟨v,r,rfl,iT h1 e1,gQ h2 e2⟩
   · simp at h
def Gh.jV (G:Gh) (b:Nat) (c:Array Value):Gh:={ G with K:=fun b' o=>if b'=b then c[o]? else G.K b' o }
theorem Inv.fH {ρ:bw} {mem:List (Nat×List AV)} {sh:Sh} {aa:au} (h:Inv ρ G w mem sh aa) {b o:Nat} {v:Value} (hk:G.K b o=some v):b<w.heap.size:=
 World.block_lt_of_cell? _ _ (h.known b o v hk)
theorem Gh.iU {ρ:bw} {mem:List (Nat×List AV)} {sh:Sh} {aa:au} (h:Inv ρ G w mem sh aa) (c:Array Value):G.le (G.jV w.heap.size c) where
 K:=fun b o v hk=>by
   have:=h.fH hk
   simp only [Gh.jV]
   rw [if_neg (by omega)]
   exact hk
 pm:=fun _ _ h=>h
 sm:=fun _ _ h=>h
 tk:=fun _ t h=>⟨t,h,⟨Nat.le_refl _,t.ew⟩,fun _=>rfl⟩
theorem aY {o:Obj} {b:Nat} (h:b<w.heap.size):(w.alloc o).heap[b]?=w.heap[b]?:=RowKit.Below.heap_alloc w o b h
theorem heap_alloc_new {o:Obj}:(w.alloc o).heap[w.heap.size]?=some o:=by
 show (w.heap.push o)[w.heap.size]?=some o
 simp
theorem bO {b:Nat} {o:Obj} (h:w.heap[b]?=some o):b<w.heap.size:=by
 rcases Nat.lt_or_ge b w.heap.size with h' | h'
 · exact h'
 · simp [Array.getElem?_eq_none h'] at h
theorem FT.mono {ρ:bw} {G':Gh} {w':World} {b:Nat} {r:iB} {cells:List AV} (h:FT ρ G w b r cells) (hle:G.le G') (hr:G'.role b=G.role b) (hh:w'.heap[b]?=w.heap[b]?):FT ρ G' w' b r cells:=by
 obtain ⟨h1,c,t,h2,h3⟩:=h
 exact ⟨hr.trans h1,c,t,hh.trans h2,ae.mono hle h3⟩
theorem ot.mono {ρ:bw} {G':Gh} {w':World} {b:Nat×Nat} {r:iB} {cells:List AV} (h:ot ρ G w b r cells) (hle:G.le G') (hr:G'.role b.1=G.role b.1) (hh:w'.heap[b.1]?=w.heap[b.1]?):ot ρ G' w' b r cells:=by
 obtain ⟨h1,o,h2,h3⟩:=h
 exact ⟨hr.trans h1,o,hh.trans h2,h3.mono hle⟩
theorem ot.lt {ρ:bw} {b:Nat×Nat} {r:iB} {cells:List AV} (h:ot ρ G w b r cells):b.1<w.heap.size:=by
 obtain ⟨_,o,h2,_⟩:=h
 exact bO h2
theorem Inv.iE {ρ:bw} {mem:List (Nat×List AV)} {sh:Sh} {aa:au} (h:Inv ρ G w mem sh aa) (c:Array Value) (t:TypeId) :
   Inv ρ (G.jV w.heap.size c) (w.alloc (.cells c t)) mem sh aa:=by
 have hle:=Gh.iU h c
 constructor
 · intro b o v hk
   simp only [Gh.jV] at hk
   split at hk
   · rename_i hb;subst hb
     simp [hk]
   · rw [World.cell?_alloc_old]
     · exact h.known b o v hk
     · simpa using ‹¬b=w.heap.size›
 · intro b o v hk
   simp only [Gh.jV] at hk
   split at hk
   · rename_i hb;subst hb
     exact .inl (h.fresh _ (Nat.le_refl _))
   · exact h.aM b o v hk
 · intro b hb
   simp at hb
   exact h.fresh b (by omega)
 · intro d cells hd
   obtain ⟨b,e1,e2,e3⟩:=h.bZ d cells hd
   have hb:b<w.heap.size:=by obtain ⟨c,t,hh,_⟩:=e2.at_;exact bO hh
   exact ⟨b,e1,e2.mono hle rfl (aY hb),e3⟩
 · exact h.eN
 · intro d cells hd
   obtain ⟨b,e1,e2,e3⟩:=h.cL d cells hd
   have hb:b.1<w.heap.size:=e2.lt
   exact ⟨b,e1,e2.mono hle rfl (aY hb),e3⟩
 · exact h.dT
 · intro τ n hn
   obtain ⟨tk,e1,e2,e3⟩:=h.cn τ n hn
   refine ⟨tk,e1,e2,e3.cap,e3.zero,fun hlt=>?_⟩
   obtain ⟨b,o,cc,ty,f1,f2,f3,f4,f5⟩:=e3.spare hlt
   have hb:=bO f3
   refine ⟨b,o,cc,ty,f1,f2,(aY hb).trans f3,f4,fun j v hk=>f5 j v ?_⟩
   simp only [Gh.jV] at hk
   rwa [if_neg (by omega)] at hk
 · exact h.dL
theorem bz.iE {ρ:bw} {mem:List (Nat×List AV)} {sh:Sh} {aa:au} (h:Inv ρ G w mem sh aa) (c:Array Value) (t:TypeId) :
   bz G w (G.jV w.heap.size c) (w.alloc (.cells c t)) where
 size:=by simp
 os:=rfl
 tape:=rfl
 output:=rfl
 K:=(Gh.iU h c).K
 sm:=fun _ _ h=>h
 cX:=fun b hb hr=>⟨hr,aY hb⟩
 fe:=fun b τ _ hr=>.inr ⟨τ,hr⟩
 eE:=fun b o v hb _ hk=>by
   simp only [Gh.jV] at hk
   rwa [if_neg (by omega)] at hk
theorem Cj {b:Nat} {l:List Value}:At (G.jV b l.toArray).K b 0 l:=by
 intro j v hj
 simp only [Gh.jV,if_true,Nat.zero_add]
 simpa using hj
end
end Go.Ab
