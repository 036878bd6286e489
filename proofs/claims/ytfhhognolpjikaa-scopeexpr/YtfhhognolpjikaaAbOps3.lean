import Derived.Test.YtfhhognolpjikaaAbOps2
/-
  Literals, cuts, and the rest of the operations on values.
-/
set_option linter.unusedVariables false
set_option linter.unusedSimpArgs false
set_option maxRecDepth 100000
set_option maxHeartbeats 8000000
namespace Go.Ab
section
variable {P:Program} {ns:Names} {G:Gh} {w:World}
theorem fH {α β:Type} {f:α→Option β}:∀{l:List α} {r:List β},cX f l=some r→r.length=l.length
 | [],_,h=>by simp [cX] at h;subst h;rfl
 | x::l,r,h=>by
   simp only [cX] at h
   split at h
   · rename_i y ys h1 h2
     simp at h;subst h
     simp [fH h2]
   · simp at h
theorem qC {α β:Type} {f:α→Option β}:∀{l:List α} {r:List β},cX f l=some r→∀{i:Nat} {x:α},l[i]?=some x→∃y,r[i]?=some y∧f x=some y
 | [],_,_,i,x,hx=>by simp at hx
 | a::l,r,h,i,x,hx=>by
   simp only [cX] at h
   split at h
   · rename_i y ys h1 h2
     simp at h;subst h
     cases i with
     | zero=>simp at hx;subst hx;exact ⟨y,by simp,h1⟩
     | succ i=>simpa using qC h2 (by simpa using hx)
   · simp at h
theorem qD {α β:Type} {f:α→Sem β} {g:α→Option β} (hf:∀x y,g x=some y→(f x).run P w=.ok y w):∀{l:List α} {r:List β},
   cX g l=some r→(l.mapM f).run P w=.ok r w
 | [],_,h=>by simp [cX] at h;subst h;simp
 | x::l,r,h=>by
   simp only [cX] at h
   split at h
   · rename_i y ys h1 h2
     simp at h;subst h
     simp only [List.mapM_cons,Sem.run_bind,hf x y h1,Result.andThen_ok,qD hf h2,Sem.run_pure]
   · simp at h
theorem fq {t:Nat} {z:List PV} (h:cd P t=some z):∃zv,(zeroValue t).run P w=.ok zv w∧cX cW zv.cells.toList=some z:=by
 unfold cd at h
 split at h
 · rename_i zv hz
   cases hi:P.info? t with
   | none=>simp [hi] at hz
   | some i=>
     simp [hi] at hz
     exact ⟨zv,by simp [zeroValue,typeInfo,hi,hz],h⟩
 · simp at h
theorem pc {ρ:bI} {v:Value} {p:PV} (h:cW v=some p):aq ρ G (bq.zeroCell p) v∧aP (bq.zeroCell p)=true:=by
 obtain ⟨h1,h2⟩:=gv (K:=G.K) h
 unfold bq.zeroCell
 split
 · refine ⟨?_,rfl⟩
   cases v with
   | slice a l c=>
     cases a with
     | some a=>simp [cW] at h
     | none=>
       cases l with
       | succ l=>simp [cW] at h
       | zero=>
         cases c with
         | succ c=>simp [cW] at h
         | zero=>simp only [aq];exact ⟨none,0,rfl,rfl,.inl rfl⟩
   | _=>simp [cW] at h
 · refine ⟨by simp only [aq];exact Rel.AN h1,?_⟩
   cases p<;>simp_all [aP,fX]
theorem fC {ρ:bI}:∀{l:List Value} {z:List PV},cX cW l=some z→al ρ G (z.map bq.zeroCell) l∧(z.map bq.zeroCell).all aP=true
 | [],_,h=>by simp [cX] at h;subst h;simp [al]
 | v::l,z,h=>by
   simp only [cX] at h
   split at h
   · rename_i y ys h1 h2
     simp at h;subst h
     obtain ⟨g1,g2⟩:=fC (ρ:=ρ) h2
     obtain ⟨g3,g4⟩:=pc (G:=G) (ρ:=ρ) h1
     simp only [List.map_cons,al,List.all_cons,g4,g2,Bool.and_true,and_true]
     exact ⟨v,l,rfl,g3,g1⟩
   · simp at h
theorem kZ (off:Nat):∀(l:List Value) (k:Nat) (cs:Array Value),off+k+l.length≤cs.size →
   ((l.zipIdx k).foldl (fun cs (x:Value×Nat)=>cs.setIfInBounds (off+x.2) x.1) cs).toList=cs.toList.take (off+k)++l++cs.toList.drop (off+k+l.length)
 | [],k,cs,_=>by simp
 | v::l,k,cs,h=>by
   simp only [List.zipIdx_cons,List.foldl_cons]
   have h':off+(k+1)+l.length≤(cs.setIfInBounds (off+k) v).size:=by simp at h ⊢;omega
   rw [kZ off l (k+1) _ h']
   have:=list_seg_step cs.toList (off+k) v l (by simp at h ⊢;omega)
   simpa [Array.toList_setIfInBounds,Nat.add_assoc] using this
theorem ee {ρ:bI} {cs:List AV} {l:List Value} (off:Nat) {us:List AV} {vs:List Value} (h:al ρ G cs l) (k:al ρ G us vs) :
   al ρ G (aN cs off us) (l.take off++vs++l.drop (off+vs.length)):=by
 unfold aN
 rw [←k.length]
 exact al.append (al.append (h.take off) k) (h.drop _)
theorem gg {B:AV→Bool} {cs us:List AV} {off:Nat} (h:cs.all B=true) (k:us.all B=true):(aN cs off us).all B=true:=by
 unfold aN
 rw [List.all_eq_true] at *
 intro x hx
 simp only [List.mem_append] at hx
 rcases hx with (hx | hx) | hx
 · exact h x (List.mem_of_mem_take hx)
 · exact k x hx
 · exact h x (List.mem_of_mem_drop hx)
theorem mQ {place:Nat→Option (Nat×Nat)}:∀{is:List Nat} {pl:List (Nat×Nat)} {vals:List AV} {rvs:List Value} {cells:List AV} {rc:Array Value} {cs:List AV},
   cX place is=some pl→al (num ns) G vals rvs→al (num ns) G cells rc.toList→cells.all aP=true→is.length=rvs.length→iQ cells pl vals=some cs →
   ∃rc',Instr.fill place rc (is.zip rvs)=some rc'∧al (num ns) G cs rc'.toList∧cs.all aP=true
 | [],pl,vals,rvs,cells,rc,cs,hp,hv,hc,hb,hl,h=>by
   simp [cX] at hp;subst hp
   have:rvs=[]:=by cases rvs<;>simp_all
   subst this
   have:=hv.length
   have:vals=[]:=by cases vals<;>simp_all
   subst this
   simp [iQ] at h;subst h
   exact ⟨rc,by simp [Instr.fill],hc,hb⟩
 | i::is,pl,vals,rvs,cells,rc,cs,hp,hv,hc,hb,hl,h=>by
   simp only [cX] at hp
   split at hp
   · rename_i y ys h1 h2
     simp at hp;subst hp
     obtain ⟨off,sz⟩:=y
     cases vals with
     | nil=>simp [iQ] at h
     | cons v vals=>
       simp only [al] at hv
       obtain ⟨rv,rr,rfl,e1,e2⟩:=hv
       simp only [iQ,Option.ite_none_right_eq_some] at h
       obtain ⟨⟨g1,g2,g3⟩,h⟩:=h
       have hcells:=e1.cells g3
       have hlen:=hcells.length
       have hsz:rv.cells.size=sz:=by rw [←g1,←hlen];simp
       have hrc:rc.size=cells.length:=by have:=hc.length;simpa using this
       simp only [List.zip_cons_cons,Instr.fill,h1]
       have hcond:(decide (rv.cells.size≠sz) || decide (off+rv.cells.size > rc.size))=false:=by
         simp [hsz];omega
       have hfold:(rv.cells.zipIdx.foldl (fun cs (x:Value×Nat)=>cs.setIfInBounds (off+x.2) x.1) rc).toList=rc.toList.take off++rv.cells.toList++rc.toList.drop (off+rv.cells.toList.length):=by
         have:=kZ off rv.cells.toList 0 rc (by simp;omega)
         rw [←Array.foldl_toList]
         simpa using this
       rw [if_neg (by simp [hsz];omega)]
       refine mQ (is:=is) h2 e2 (cells:=aN cells off (aX v)) ?_ (gg hb g3) (by simpa using hl) h
       rw [hfold]
       exact ee off hc hcells
   · simp at hp
theorem pd {t:Nat} {all:List (Nat×Nat)} (h:fieldsOf P t=some all):∃fs,P.underlying t=some (.struct fs) ∧
   (fs.mapM fun f=>(do pure (f.offset,←sizeOf f.type):Sem (Nat×Nat))).run P w=.ok all.toArray w:=by
 unfold fieldsOf at h
 split at h
 · rename_i fs hu
   refine ⟨fs,hu,?_⟩
   rw [Array.mapM_eq_mapM_toList]
   simp only [Sem.run_map]
   rw [qD (g:=fun f=>(cD P f.type).map fun s=>(f.offset,s)) ?_ h]
   · rfl
   · intro f y hy
     simp only [Option.map_eq_some_iff] at hy
     obtain ⟨s,h1,rfl⟩:=hy
     simp only [Sem.run_bind,df h1,Result.andThen_ok,Sem.run_pure]
 · simp at h
theorem qE {t:Nat} {z:List PV} {is:List Nat} {pl:List (Nat×Nat)} {vals:List AV} {rvs:List Value} {x:AV}
   (hz:cd P t=some z) (hp:placesOf P t is=some pl) (hr:al (num ns) G vals rvs) (hl:is.length=rvs.length) (h:bq (.build z pl) vals=some x) :
   ∃v,(Instr.build t (is.zip rvs).toArray).run P w=.ok v w∧aq (num ns) G x v:=by
 obtain ⟨zv,hz1,hz2⟩:=fq (w:=w) hz
 unfold placesOf at hp
 split at hp
 · rename_i all hall
   obtain ⟨fs,hu,hm⟩:=pd (w:=w) hall
   simp only [bq,Option.map_eq_some_iff] at h
   obtain ⟨cs,h1,rfl⟩:=h
   obtain ⟨g1,g2⟩:=fC (G:=G) (ρ:=num ns) hz2
   obtain ⟨rc,e1,e2,_⟩:=mQ (place:=(all.toArray[·]?)) (rc:=zv.cells) (by simpa using hp) hr g1 g2 hl h1
   refine ⟨.agg rc,?_,?_⟩
   · simp only [Instr.build,Sem.run_bind,hz1,Result.andThen_ok,run_underlying hu,hm]
     simp only [e1,Sem.run_pure]
   · simp only [aq]
     exact ⟨rc.toList,by simp,e2⟩
 · simp at hp
theorem Rel.H' {K:bf} {p:PV} {v:Value} (h:Rel K p v):R K true p v.cells.toList:=by
 cases p with
 | agg cs=>obtain ⟨vs,rfl,h⟩:=h;simp only [R,Value.cells];exact ⟨trivial,by simpa using h⟩
 | bool b=>have h':=h;simp only [Rel,R] at h';simp at h';subst h';simpa [Value.cells] using R.top h
 | int k n=>have h':=h;simp only [Rel,R] at h';simp at h';subst h';simpa [Value.cells] using R.top h
 | str s=>have h':=h;simp only [Rel,R] at h';simp at h';subst h';simpa [Value.cells] using R.top h
 | aI els=>
   have h':=h
   obtain ⟨b,l,c,rfl,_⟩:=bO.1 h'
   simpa [Value.cells] using R.top h
theorem kp {x:AV} {p:PV} {v:Value} (h:jF x=some p) (hr:aq (num ns) G x v):Rel G.K p v:=by
 unfold jF at h
 split at h<;>simp at h<;>subst h
 · simpa only [aq] using hr
 · exact dD (x:=.bR _) rfl hr
 · exact dD (x:=.own _ _) rfl hr
theorem lK {x:AV}:cu [] x=jF x:=by
 cases x<;>simp [cu,jF]
theorem k6 {x:AV} {p:PV} (h:jF x=some p) (hl:aP x=true):fX p=true:=by
 cases x with
 | pv q=>simp [jF] at h;subst h;cases q<;>simp_all [aP,fX]
 | bR _=>simp [jF] at h;subst h;rfl
 | own _ _=>simp [jF] at h;subst h;rfl
 | _=>simp [jF] at h
theorem Rel.AQ {K:bf} {p:PV} {v:Value} (h:Rel K p v) (hl:fX p=true):R K false p [v]:=(AM hl).1 h
theorem ot:∀{cs:List AV} {ps:List PV} {vs:List Value},dH [] cs=some ps→al (num ns) G cs vs→cL G.K ps vs
 | [],ps,vs,h,hr=>by simp [dH] at h;subst h;simp only [al] at hr;simp [cL,hr]
 | c::cs,ps,vs,h,hr=>by
   simp only [dH,lK,Option.ite_none_right_eq_some] at h
   obtain ⟨hl,h⟩:=h
   split at h
   · rename_i p ps' h1 h2
     simp at h;subst h
     simp only [al] at hr
     obtain ⟨v,r,rfl,e1,e2⟩:=hr
     simp only [cL]
     exact ⟨v,r,rfl,(kp h1 e1).AQ (k6 h1 hl),ot h2 e2⟩
   · simp at h
theorem jm {x:AV} {p:PV} {v:Value} (h:eM [] x=some p) (hr:aq (num ns) G x v):Rel G.K p v:=by
 cases x with
 | agg cs=>
   simp only [eM,Option.map_eq_some_iff] at h
   obtain ⟨ps,h1,rfl⟩:=h
   simp only [aq] at hr
   obtain ⟨vs,rfl,hr⟩:=hr
   simp only [Rel]
   exact ⟨vs,rfl,ot h1 hr⟩
 | _=>simp only [eM,lK] at h;exact kp h hr
theorem im:∀{xs:List AV} {ps:List PV} {vs:List Value},cp [] xs=some ps→al (num ns) G xs vs→hZ G.K ps vs
 | [],ps,vs,h,hr=>by simp [cp] at h;subst h;simp only [al] at hr;exact hr
 | c::cs,ps,vs,h,hr=>by
   simp only [cp] at h
   split at h
   · rename_i p ps' h1 h2
     simp at h;subst h
     simp only [al] at hr
     obtain ⟨v,r,rfl,e1,e2⟩:=hr
     exact ⟨v,r,rfl,jm h1 e1,im h2 e2⟩
   · simp at h
def Gh.kq (G:Gh) (b:Nat) (c:Array Value):Gh:={ G with K:=fun b' o=>if b'=b then c[o]? else G.K b' o }
theorem Inv.gw {ρ:bI} {mem:List (Nat×List AV)} {sh:Sh} {aa:au} (h:Inv ρ G w mem sh aa) {b o:Nat} {v:Value} (hk:G.K b o=some v):b<w.heap.size:=
 World.block_lt_of_cell? _ _ (h.known b o v hk)
theorem Gh.jn {ρ:bI} {mem:List (Nat×List AV)} {sh:Sh} {aa:au} (h:Inv ρ G w mem sh aa) (c:Array Value):G.le (G.kq w.heap.size c) where
 K:=fun b o v hk=>by
   have:=h.gw hk
   simp only [Gh.kq]
   rw [if_neg (by omega)]
   exact hk
 pm:=fun _ _ h=>h
 sm:=fun _ _ h=>h
 tk:=fun _ t h=>⟨t,h,⟨Nat.le_refl _,t.eX⟩,fun _=>rfl⟩
theorem bm {o:Obj} {b:Nat} (h:b<w.heap.size):(w.alloc o).heap[b]?=w.heap[b]?:=RowKit.Below.heap_alloc w o b h
theorem heap_alloc_new {o:Obj}:(w.alloc o).heap[w.heap.size]?=some o:=by
 show (w.heap.push o)[w.heap.size]?=some o
 simp
theorem bV {b:Nat} {o:Obj} (h:w.heap[b]?=some o):b<w.heap.size:=by
 rcases Nat.lt_or_ge b w.heap.size with h' | h'
 · exact h'
 · simp [Array.getElem?_eq_none h'] at h
theorem HL.mono {ρ:bI} {G':Gh} {w':World} {b:Nat} {r:iX} {cells:List AV} (h:HL ρ G w b r cells) (hle:G.le G') (hr:G'.role b=G.role b) (hh:w'.heap[b]?=w.heap[b]?):HL ρ G' w' b r cells:=by
 obtain ⟨h1,c,t,h2,h3⟩:=h
 exact ⟨hr.trans h1,c,t,hh.trans h2,al.mono hle h3⟩
theorem pb.mono {ρ:bI} {G':Gh} {w':World} {b:Nat×Nat} {r:iX} {cells:List AV} (h:pb ρ G w b r cells) (hle:G.le G') (hr:G'.role b.1=G.role b.1) (hh:w'.heap[b.1]?=w.heap[b.1]?):pb ρ G' w' b r cells:=by
 obtain ⟨h1,o,h2,h3⟩:=h
 exact ⟨hr.trans h1,o,hh.trans h2,h3.mono hle⟩
theorem pb.lt {ρ:bI} {b:Nat×Nat} {r:iX} {cells:List AV} (h:pb ρ G w b r cells):b.1<w.heap.size:=by
 obtain ⟨_,o,h2,_⟩:=h
 exact bV h2
theorem Inv.i4 {ρ:bI} {mem:List (Nat×List AV)} {sh:Sh} {aa:au} (h:Inv ρ G w mem sh aa) (c:Array Value) (t:TypeId) :
   Inv ρ (G.kq w.heap.size c) (w.alloc (.cells c t)) mem sh aa:=by
 have hle:=Gh.jn h c
 constructor
 · intro b o v hk
   simp only [Gh.kq] at hk
   split at hk
   · rename_i hb;subst hb
     simp [hk]
   · rw [World.cell?_alloc_old]
     · exact h.known b o v hk
     · simpa using ‹¬b=w.heap.size›
 · intro b o v hk
   simp only [Gh.kq] at hk
   split at hk
   · rename_i hb;subst hb
     exact .inl (h.fresh _ (Nat.le_refl _))
   · exact h.aY b o v hk
 · intro b hb
   simp at hb
   exact h.fresh b (by omega)
 · intro d cells hd
   obtain ⟨b,e1,e2,e3⟩:=h.cm d cells hd
   have hb:b<w.heap.size:=by obtain ⟨c,t,hh,_⟩:=e2.at_;exact bV hh
   exact ⟨b,e1,e2.mono hle rfl (bm hb),e3⟩
 · exact h.fp
 · intro d cells hd
   obtain ⟨b,e1,e2,e3⟩:=h.cY d cells hd
   have hb:b.1<w.heap.size:=e2.lt
   exact ⟨b,e1,e2.mono hle rfl (bm hb),e3⟩
 · exact h.ek
 · intro τ n hn
   obtain ⟨tk,e1,e2,e3⟩:=h.ct τ n hn
   refine ⟨tk,e1,e2,e3.cap,e3.zero,fun hlt=>?_⟩
   obtain ⟨b,o,cc,ty,f1,f2,f3,f4,f5⟩:=e3.spare hlt
   have hb:=bV f3
   refine ⟨b,o,cc,ty,f1,f2,(bm hb).trans f3,f4,fun j v hk=>f5 j v ?_⟩
   simp only [Gh.kq] at hk
   rwa [if_neg (by omega)] at hk
 · exact h.d_
theorem bJ.i4 {ρ:bI} {mem:List (Nat×List AV)} {sh:Sh} {aa:au} (h:Inv ρ G w mem sh aa) (c:Array Value) (t:TypeId) :
   bJ G w (G.kq w.heap.size c) (w.alloc (.cells c t)) where
 size:=by simp
 os:=rfl
 tape:=rfl
 output:=rfl
 K:=(Gh.jn h c).K
 sm:=fun _ _ h=>h
 dp:=fun b hb hr=>⟨hr,bm hb⟩
 ga:=fun b τ _ hr=>.inr ⟨τ,hr⟩
 e_:=fun b o v hb _ hk=>by
   simp only [Gh.kq] at hk
   rwa [if_neg (by omega)] at hk
theorem Dh {b:Nat} {l:List Value}:At (G.kq b l.toArray).K b 0 l:=by
 intro j v hj
 simp only [Gh.kq,if_true,Nat.zero_add]
 simpa using hj
end
end Go.Ab
