import Derived.Test.YtcjggpmnbcfedaaDoorAbOps6
import Derived.Laws.Tables
import Derived.RangeFuncRecord
/-
  Operations with memory.
-/
set_option linter.unusedVariables false
set_option linter.unusedSimpArgs false
set_option linter.unnecessarySimpa false
set_option maxRecDepth 100000
set_option maxHeartbeats 8000000
namespace Go.Ab
section
variable {P:Program} {ns:Names} {G:Gh} {w:World}
theorem aS {α:Type}:∀(l:List (Nat×α)) (k:Nat) (v:α),look (bV l k v) k=some v
 | [],k,v=>by simp [bV,look]
 | (k',u)::r,k,v=>by
   simp only [bV]
   split
   · rename_i h;simp [look,h]
   · rename_i h;simp [look,h,aS r k v]
theorem aL {α:Type}:∀(l:List (Nat×α)) (k k':Nat) (v:α),k≠k'→look (bV l k v) k'=look l k'
 | [],k,k',v,h=>by simp [bV,look,h]
 | (k0,u)::r,k,k',v,h=>by
   simp only [bV]
   split
   · rename_i h0;subst h0;simp [look,h]
   · simp only [look];split
     · rfl
     · exact aL r k k' v h
structure eW (G:Gh) (w w':World) (b:Nat):Prop where
 size:w'.heap.size=w.heap.size
 other:∀k,k≠b→w'.heap[k]?=w.heap[k]?
 os:w'.os=w.os
 tape:w'.tape=w.tape
 output:w'.output=w.output
theorem eW.setRow (b:Nat) (c:Array Value):eW G w (w.setRow b c) b:=
 ⟨setRow_size _ _ _,fun k h=>setRow_other _ _ _ _ h,rfl,rfl,rfl⟩
theorem eW.mr {w':World} {b:Nat} (h:eW G w w' b) (hb:G.role b≠.b_):aN G w G w' where
 size:=by rw [h.size];exact Nat.le_refl _
 os:=h.os
 tape:=h.tape
 output:=h.output
 K:=G.K.le_refl
 sm:=fun _ _ h=>h
 b_:=fun _ _ hr=>⟨hr,h.other _ (fun e=>hb (e ▸ hr))⟩
 ew:=fun _ τ _ hr=>.inr ⟨τ,hr⟩
 dP:=fun _ _ _ _ _ hk=>hk
theorem eW.known {ρ:aX} {mem:List (Nat×List AV)} {sh:Sh} {aa:al} (hi:Inv ρ G w mem sh aa) {w':World} {b:Nat} (h:eW G w w' b)
   (hb:G.role b≠.b_) (hbt:∀τ,G.role b≠.tok τ):∀b' o v,G.K b' o=some v→w'.cell? ⟨b',o,none⟩=some v:=by
 intro b' o v hk
 have hne:b'≠b:=by
   rintro rfl
   rcases hi.aC _ _ _ hk with h1 | ⟨τ,h1⟩
   · exact hb h1
   · exact hbt τ h1
 have:=hi.known b' o v hk
 unfold World.cell? at this ⊢
 simp only at this ⊢
 rw [h.other b' hne]
 exact this
theorem eW.tok {ρ:aX} {mem:List (Nat×List AV)} {sh:Sh} {aa:al} (hi:Inv ρ G w mem sh aa) {w':World} {b:Nat} (h:eW G w w' b)
   (hbt:∀τ,G.role b≠.tok τ):∀τ n,aa[τ]?=some n→∃t,G.tk τ=some t∧t.len=n∧Bz G w' τ t:=by
 intro τ n hn
 obtain ⟨t,e1,e2,e3⟩:=hi.bE τ n hn
 refine ⟨t,e1,e2,e3.cap,e3.zero,fun hlt=>?_⟩
 obtain ⟨b',o,c,ty,f1,f2,f3,f4,f5⟩:=e3.spare hlt
 exact ⟨b',o,c,ty,f1,f2,by rw [h.other b' (fun e=>hbt τ (e ▸ f2))];exact f3,f4,f5⟩
theorem Inv.ug {ρ:aX} {mem:List (Nat×List AV)} {sh:Sh} {aa:al} (hi:Inv ρ G w mem sh aa) {d b:Nat} {cells cells':List AV} {c':Array Value}
   (hl:look mem d=some cells) (hp:G.pm d=some b) (hr:ae ρ G cells' c'.toList) (hb:cells'.all aA=true) :
   Inv ρ G (w.setRow b c') (bV mem d cells') sh aa∧aN G w G (w.setRow b c'):=by
 obtain ⟨b0,e1,e2,e3⟩:=hi.bp d cells hl
 have:b0=b:=by rw [hp] at e1;simpa using e1.symm
 subst this
 obtain ⟨hrole,c,t,hh,_⟩:=e2
 have hne:G.role b0≠.b_:=by rw [hrole];simp
 have hnt:∀τ,G.role b0≠.tok τ:=by intro τ;rw [hrole];simp
 have hA:=eW.setRow (G:=G) (w:=w) b0 c'
 refine ⟨⟨hA.known hi hne hnt,hi.aC,?_,?_,?_,?_,hi.cN,hA.tok hi hnt,hi.cY,hi.d7 (hA.mr hne)⟩,hA.mr hne⟩
 · intro k hk;rw [hA.size] at hk;exact hi.fresh k hk
 · intro d' cs hd'
   by_cases hdd:d=d'
   · subst hdd
     rw [aS] at hd'
     simp at hd';subst hd'
     exact ⟨b0,hp,⟨hrole,c',t,setRow_heap _ _ _ _ _ _ hh,hr⟩,hb⟩
   · rw [aL _ _ _ _ hdd] at hd'
     obtain ⟨b',g1,g2,g3⟩:=hi.bp d' cs hd'
     refine ⟨b',g1,⟨g2.role,?_⟩,g3⟩
     obtain ⟨c2,t2,hh2,hr2⟩:=g2.at_
     refine ⟨c2,t2,?_,hr2⟩
     rw [hA.other b']
     · exact hh2
     · rintro rfl
       have:=g2.role
       rw [hrole] at this
       simp at this
       exact hdd this
 · intro d' b' hd'
   by_cases hdd:d=d'
   · subst hdd;rw [aS];rfl
   · rw [aL _ _ _ _ hdd];exact hi.dX d' b' hd'
 · intro s cs hs
   obtain ⟨b',g1,g2,g3⟩:=hi.bD s cs hs
   refine ⟨b',g1,⟨g2.role,?_⟩,g3⟩
   obtain ⟨o2,hh2,hr2⟩:=g2.at_
   refine ⟨o2,?_,hr2⟩
   rw [hA.other b'.1]
   · exact hh2
   · intro he
     have:=g2.role
     rw [he,hrole] at this
     simp at this
theorem Inv.mT {ρ:aX} {mem:List (Nat×List AV)} {sh:Sh} {aa:al} (hi:Inv ρ G w mem sh aa) {s:Nat} {b:Nat×Nat} {cells cells':List AV} {w':World} {o':Obj}
   (hl:sh[s]?=some (some cells)) (hp:G.sm s=some b) (hA:eW G w w' b.1) (ho:w'.heap[b.1]?=some o') (hr:Holds ρ G o' b.2 cells') (hb:cells'.all bm=true) (hf:cells'.all (aq (s+1))=true) :
   Inv ρ G w' mem (sh.set s (some cells')) aa∧aN G w G w':=by
 obtain ⟨b0,e1,e2,e3⟩:=hi.bD s cells hl
 have:b0=b:=by rw [hp] at e1;simpa using e1.symm
 subst this
 have hrole:=e2.role
 have hne:G.role b0.1≠.b_:=by rw [hrole];simp
 have hnt:∀τ,G.role b0.1≠.tok τ:=by intro τ;rw [hrole];simp
 refine ⟨⟨hA.known hi hne hnt,hi.aC,?_,?_,hi.dX,?_,?_,hA.tok hi hnt,hi.cY,hi.d7 (hA.mr hne)⟩,hA.mr hne⟩
 · intro k hk;rw [hA.size] at hk;exact hi.fresh k hk
 · intro d' cs hd'
   obtain ⟨b',g1,g2,g3⟩:=hi.bp d' cs hd'
   refine ⟨b',g1,⟨g2.role,?_⟩,g3⟩
   obtain ⟨c2,t2,hh2,hr2⟩:=g2.at_
   refine ⟨c2,t2,?_,hr2⟩
   rw [hA.other b']
   · exact hh2
   · rintro rfl
     have:=g2.role
     rw [hrole] at this
     simp at this
 · intro s' cs hs
   rw [List.getElem?_set] at hs
   split at hs
   · rename_i he;subst he
     split at hs
     · simp at hs;subst hs
       exact ⟨b0,hp,⟨hrole,o',ho,hr⟩,hb,hf⟩
     · simp at hs
   · rename_i hne'
     obtain ⟨b',g1,g2,g3⟩:=hi.bD s' cs hs
     refine ⟨b',g1,⟨g2.role,?_⟩,g3⟩
     obtain ⟨o2,hh2,hr2⟩:=g2.at_
     refine ⟨o2,?_,hr2⟩
     rw [hA.other b'.1]
     · exact hh2
     · intro he
       have:=g2.role
       rw [he,hrole] at this
       simp at this
       exact hne' this
 · intro s' b' h;simpa using hi.cN s' b' h
theorem Inv.ij {ρ:aX} {mem:List (Nat×List AV)} {sh:Sh} {aa:al} (hi:Inv ρ G w mem sh aa) {s:Nat} {b:Nat×Nat} {cells cells':List AV} {c c':Array Value} {t:TypeId} {vs suf:List Value}
   (hl:sh[s]?=some (some cells)) (hp:G.sm s=some b) (hh:w.heap[b.1]?=some (.cells c t (0,0))) (hsz:c'.size=b.2) (hsp:c'.toList=vs++suf) (hr:ae ρ G cells' vs) (hb:cells'.all bm=true) (hf:cells'.all (aq (s+1))=true) :
   Inv ρ G (w.setRow b.1 c') mem (sh.set s (some cells')) aa∧aN G w G (w.setRow b.1 c'):=
 hi.mT hl hp (eW.setRow b.1 c') (setRow_heap _ _ _ _ _ _ hh) (.inl ⟨c',t,vs,suf,rfl,hsz,hsp,hr⟩) hb hf
theorem eW.putObj (b:Nat) (o:Obj):eW G w (w.putObj b o) b:=
 ⟨by simp [World.putObj],fun _ h=>World.putObj_heap_other h,rfl,rfl,rfl⟩
theorem Inv.w5 {ρ:aX} {mem:List (Nat×List AV)} {sh:Sh} {aa:al} (hi:Inv ρ G w mem sh aa) {s:Nat} {b:Nat×Nat} {kvs:List (PV×PV)} {cells:List AV} {es:Array MapEntry} {clock:Nat}
   (hl:sh[s]?=some (some cells)) (hp:G.sm s=some b) (hm:di G.K kvs es.toList) :
   Inv ρ G (w.putObj b.1 (.map es clock)) mem (sh.set s (some [.cz kvs])) aa∧aN G w G (w.putObj b.1 (.map es clock)):=by
 obtain ⟨b0,e1,e2,e3⟩:=hi.bD s cells hl
 have:b0=b:=by rw [hp] at e1;simpa using e1.symm
 subst this
 exact hi.mT hl hp (eW.putObj _ _) (World.putObj_heap_same e2.lt) (.inr ⟨es,clock,kvs,rfl,rfl,hm⟩) rfl rfl
def Gh.bO (G:Gh) (d b:Nat):Gh:={ G with role:=fun k=>if k=b then .gW d else G.role k,pm:=fun k=>if k=d then some b else G.pm k }
def Gh.br (G:Gh) (s b n:Nat):Gh:={ G with role:=fun k=>if k=b then .shr s else G.role k,sm:=fun k=>if k=s then some (b,n) else G.sm k }
theorem Inv.jL {ρ:aX} {mem:List (Nat×List AV)} {sh:Sh} {aa:al} (hi:Inv ρ G w mem sh aa) {d:Nat} {cells:List AV} {c:Array Value} (t:TypeId)
   (hl:look mem d=none) (hr:ae ρ G cells c.toList) (hb:cells.all aA=true) :
   Inv ρ (G.bO d w.heap.size) (w.alloc (.cells c t)) (bV mem d cells) sh aa∧G.le (G.bO d w.heap.size)∧aN G w (G.bO d w.heap.size) (w.alloc (.cells c t)):=by
 have hpm:G.pm d=none:=by
   cases h:G.pm d with
   | none=>rfl
   | some b=>have:=hi.dX d b h;rw [hl] at this;simp at this
 have hle:G.le (G.bO d w.heap.size):=⟨G.K.le_refl,fun k b h=>by
   simp only [Gh.bO]
   split
   · rename_i e;subst e;rw [hpm] at h;simp at h
   · exact h,fun _ _ h=>h,fun _ t h=>⟨t,h,⟨Nat.le_refl _,t.dO⟩,fun _=>rfl⟩⟩
 have hevo:aN G w (G.bO d w.heap.size) (w.alloc (.cells c t)):={
           size:=by simp,os:=rfl,tape:=rfl,output:=rfl,K:=G.K.le_refl,sm:=fun _ _ h=>h,
           b_:=fun b hb hr=>⟨by simp only [Gh.bO];rw [if_neg (by omega)];exact hr,aH hb⟩
           ew:=fun b τ hb hr=>.inr ⟨τ,by simp only [Gh.bO];rw [if_neg (by omega)];exact hr⟩
           dP:=fun _ _ _ _ _ hk=>hk }
 refine ⟨⟨?_,?_,?_,?_,?_,?_,hi.cN,?_,hi.cY,hi.d7 hevo⟩,hle,hevo⟩
 · intro b o v hk
   have hlt:b<w.heap.size:=hi.eU (o:=o) (v:=v) hk
   rw [World.cell?_alloc_lt _ _ ⟨b,o,none⟩ hlt]
   exact hi.known b o v hk
 · intro b o v hk
   have:=hi.eU (o:=o) (v:=v) hk
   simp only [Gh.bO]
   rw [if_neg (by omega)]
   exact hi.aC b o v hk
 · intro b hb'
   simp at hb'
   simp only [Gh.bO]
   rw [if_neg (by omega)]
   exact hi.fresh b (by omega)
 · intro d' cs hd'
   by_cases hdd:d=d'
   · subst hdd
     rw [aS] at hd'
     simp at hd';subst hd'
     exact ⟨w.heap.size,by simp [Gh.bO],⟨by simp [Gh.bO],c,t,heap_alloc_new,ae.mono hle hr⟩,hb⟩
   · rw [aL _ _ _ _ hdd] at hd'
     obtain ⟨b',g1,g2,g3⟩:=hi.bp d' cs hd'
     have hlt:b'<w.heap.size:=by obtain ⟨_,_,hh,_⟩:=g2.at_;exact bg hh
     exact ⟨b',by simp only [Gh.bO];rw [if_neg (Ne.symm hdd)];exact g1,g2.mono hle (by simp only [Gh.bO];rw [if_neg (by omega)]) (aH hlt),g3⟩
 · intro d' b' hd'
   by_cases hdd:d=d'
   · subst hdd;rw [aS];rfl
   · rw [aL _ _ _ _ hdd]
     simp only [Gh.bO] at hd'
     rw [if_neg (Ne.symm hdd)] at hd'
     exact hi.dX d' b' hd'
 · intro s cs hs
   obtain ⟨b',g1,g2,g3⟩:=hi.bD s cs hs
   have hlt:b'.1<w.heap.size:=g2.lt
   exact ⟨b',g1,g2.mono hle (by simp only [Gh.bO];rw [if_neg (by omega)]) (aH hlt),g3⟩
 · intro τ n hn
   obtain ⟨tk,e1,e2,e3⟩:=hi.bE τ n hn
   refine ⟨tk,e1,e2,e3.cap,e3.zero,fun hlt=>?_⟩
   obtain ⟨b,o,cc,ty,f1,f2,f3,f4,f5⟩:=e3.spare hlt
   have hb:=bg f3
   exact ⟨b,o,cc,ty,f1,by simp only [Gh.bO];rw [if_neg (by omega)];exact f2,(aH hb).trans f3,f4,f5⟩
theorem Inv.nD {ρ:aX} {mem:List (Nat×List AV)} {sh:Sh} {aa:al} (hi:Inv ρ G w mem sh aa) {cells:List AV} {o':Obj} {N:Nat}
   (hr:Holds ρ G o' N cells) (hb:cells.all bm=true) (hf:cells.all (aq (sh.length+1))=true) :
   Inv ρ (G.br sh.length w.heap.size N) (w.alloc o') mem (sh++[some cells]) aa∧G.le (G.br sh.length w.heap.size N)∧aN G w (G.br sh.length w.heap.size N) (w.alloc o'):=by
 have hsm:G.sm sh.length=none:=by
   cases h:G.sm sh.length with
   | none=>rfl
   | some b=>have:=hi.cN _ b h;omega
 have hle:G.le (G.br sh.length w.heap.size N):=⟨G.K.le_refl,fun _ _ h=>h,fun k b h=>by
   simp only [Gh.br]
   split
   · rename_i e;subst e;rw [hsm] at h;simp at h
   · exact h,fun _ t h=>⟨t,h,⟨Nat.le_refl _,t.dO⟩,fun _=>rfl⟩⟩
 have hevo:aN G w (G.br sh.length w.heap.size N) (w.alloc o'):={
           size:=by simp,os:=rfl,tape:=rfl,output:=rfl,K:=G.K.le_refl,sm:=hle.sm,
           b_:=fun b hb hr=>⟨by simp only [Gh.br];rw [if_neg (by omega)];exact hr,aH hb⟩
           ew:=fun b τ hb hr=>.inr ⟨τ,by simp only [Gh.br];rw [if_neg (by omega)];exact hr⟩
           dP:=fun _ _ _ _ _ hk=>hk }
 refine ⟨⟨?_,?_,?_,?_,hi.dX,?_,?_,?_,hi.cY,hi.d7 hevo⟩,hle,hevo⟩
 · intro b o v hk
   have hlt:b<w.heap.size:=hi.eU (o:=o) (v:=v) hk
   rw [World.cell?_alloc_lt _ _ ⟨b,o,none⟩ hlt]
   exact hi.known b o v hk
 · intro b o v hk
   have:=hi.eU (o:=o) (v:=v) hk
   simp only [Gh.br]
   rw [if_neg (by omega)]
   exact hi.aC b o v hk
 · intro b hb'
   simp at hb'
   simp only [Gh.br]
   rw [if_neg (by omega)]
   exact hi.fresh b (by omega)
 · intro d' cs hd'
   obtain ⟨b',g1,g2,g3⟩:=hi.bp d' cs hd'
   have hlt:b'<w.heap.size:=by obtain ⟨_,_,hh,_⟩:=g2.at_;exact bg hh
   exact ⟨b',g1,g2.mono hle (by simp only [Gh.br];rw [if_neg (by omega)]) (aH hlt),g3⟩
 · intro s cs hs
   rw [List.getElem?_append] at hs
   split at hs
   · obtain ⟨b',g1,g2,g3⟩:=hi.bD s cs hs
     have hlt:b'.1<w.heap.size:=g2.lt
     exact ⟨b',hle.sm _ _ g1,g2.mono hle (by simp only [Gh.br];rw [if_neg (by omega)]) (aH hlt),g3⟩
   · rename_i hge
     have hs':s=sh.length:=by
       rcases Nat.lt_or_ge (s-sh.length) 1 with h | h
       · omega
       · rw [List.getElem?_eq_none (by simpa using h)] at hs;simp at hs
     subst hs'
     simp at hs;subst hs
     exact ⟨(w.heap.size,N),by simp [Gh.br],⟨by simp [Gh.br],o',heap_alloc_new,hr.mono hle⟩,hb,hf⟩
 · intro s b h
   simp only [Gh.br] at h
   split at h
   · rename_i e;subst e;simp
   · have:=hi.cN s b h;simp;omega
 · intro τ n hn
   obtain ⟨tk,e1,e2,e3⟩:=hi.bE τ n hn
   refine ⟨tk,e1,e2,e3.cap,e3.zero,fun hlt=>?_⟩
   obtain ⟨b,o,cc,ty,f1,f2,f3,f4,f5⟩:=e3.spare hlt
   have hb:=bg f3
   exact ⟨b,o,cc,ty,f1,by simp only [Gh.br];rw [if_neg (by omega)];exact f2,(aH hb).trans f3,f4,f5⟩
theorem Inv.jn {ρ:aX} {mem:List (Nat×List AV)} {sh:Sh} {aa:al} (hi:Inv ρ G w mem sh aa) {cells:List AV} {c:Array Value} (t:TypeId)
   (hr:ae ρ G cells c.toList) (hb:cells.all bm=true) (hf:cells.all (aq (sh.length+1))=true) :
   Inv ρ (G.br sh.length w.heap.size c.size) (w.alloc (.cells c t)) mem (sh++[some cells]) aa∧G.le (G.br sh.length w.heap.size c.size)∧aN G w (G.br sh.length w.heap.size c.size) (w.alloc (.cells c t)):=
 hi.nD (Holds.full hr) hb hf
theorem Inv.allocMap {ρ:aX} {mem:List (Nat×List AV)} {sh:Sh} {aa:al} (hi:Inv ρ G w mem sh aa) :
   Inv ρ (G.br sh.length w.heap.size 0) (w.alloc (.map #[] 0)) mem (sh++[some [.cz []]]) aa∧G.le (G.br sh.length w.heap.size 0)∧aN G w (G.br sh.length w.heap.size 0) (w.alloc (.map #[] 0)):=
 hi.nD (.inr ⟨#[],0,[],rfl,rfl,rfl⟩) rfl rfl
end
end Go.Ab
