import Derived.Test.YtcjggpmnbcfedaaGreatDoorAbOps6
import Derived.Laws.Tables
import Derived.RangeFuncRecord
/-
  Operations with memory.
-/
set_option linter.unusedVariables false
set_option linter.unusedSimpArgs false
set_option linter.unnecessarySimpa false
set_option maxRecDepth 100000
set_option maxHeartbeats 8000000
namespace Go.Ab
section
variable {P:Program} {ns:Names} {G:Gh} {w:World}
theorem bG {α:Type}:∀(l:List (Nat×α)) (k:Nat) (v:α),look (dt l k v) k=some v
 | [],k,v=>by simp [dt,look]
 | (k',u)::r,k,v=>by
   simp only [dt]
   split
   · rename_i h;simp [look,h]
   · rename_i h;simp [look,h,bG r k v]
theorem bY {α:Type}:∀(l:List (Nat×α)) (k k':Nat) (v:α),k≠k'→look (dt l k v) k'=look l k'
 | [],k,k',v,h=>by simp [dt,look,h]
 | (k0,u)::r,k,k',v,h=>by
   simp only [dt]
   split
   · rename_i h0;subst h0;simp [look,h]
   · simp only [look];split
     · rfl
     · exact bY r k k' v h
structure jr (G:Gh) (w w':World) (b:Nat):Prop where
 size:w'.heap.size=w.heap.size
 other:∀k,k≠b→w'.heap[k]?=w.heap[k]?
 os:w'.os=w.os
 tape:w'.tape=w.tape
 output:w'.output=w.output
theorem jr.setRow (b:Nat) (c:Array Value):jr G w (w.setRow b c) b:=
 ⟨setRow_size _ _ _,fun k h=>setRow_other _ _ _ _ h,rfl,rfl,rfl⟩
theorem jr.oo {w':World} {b:Nat} (h:jr G w w' b) (hb:G.role b≠.d_):bZ G w G w' where
 size:=by rw [h.size];exact Nat.le_refl _
 os:=h.os
 tape:=h.tape
 output:=h.output
 K:=G.K.le_refl
 sm:=fun _ _ h=>h
 d_:=fun _ _ hr=>⟨hr,h.other _ (fun e=>hb (e ▸ hr))⟩
 iT:=fun _ τ _ hr=>.inr ⟨τ,hr⟩
 hH:=fun _ _ _ _ _ hk=>hk
theorem jr.known {ρ:cr} {mem:List (Nat×List AV)} {sh:Sh} {ae:aH} (hi:Inv ρ G w mem sh ae) {w':World} {b:Nat} (h:jr G w w' b)
   (hb:G.role b≠.d_) (hbt:∀τ,G.role b≠.tok τ):∀b' o v,G.K b' o=some v→w'.cell? ⟨b',o,none⟩=some v:=by
 intro b' o v hk
 have hne:b'≠b:=by
   rintro rfl
   rcases hi.bt _ _ _ hk with h1 | ⟨τ,h1⟩
   · exact hb h1
   · exact hbt τ h1
 have:=hi.known b' o v hk
 unfold World.cell? at this ⊢
 simp only at this ⊢
 rw [h.other b' hne]
 exact this
theorem jr.tok {ρ:cr} {mem:List (Nat×List AV)} {sh:Sh} {ae:aH} (hi:Inv ρ G w mem sh ae) {w':World} {b:Nat} (h:jr G w w' b)
   (hbt:∀τ,G.role b≠.tok τ):∀τ n,ae[τ]?=some n→∃t,G.tk τ=some t∧t.len=n∧Rh G w' τ t:=by
 intro τ n hn
 obtain ⟨t,e1,e2,e3⟩:=hi.di τ n hn
 refine ⟨t,e1,e2,e3.cap,e3.zero,fun hlt=>?_⟩
 obtain ⟨b',o,c,ty,f1,f2,f3,f4,f5⟩:=e3.spare hlt
 exact ⟨b',o,c,ty,f1,f2,by rw [h.other b' (fun e=>hbt τ (e ▸ f2))];exact f3,f4,f5⟩
theorem Inv.Fx {ρ:cr} {mem:List (Nat×List AV)} {sh:Sh} {ae:aH} (hi:Inv ρ G w mem sh ae) {d b:Nat} {cells cells':List AV} {c':Array Value}
   (hl:look mem d=some cells) (hp:G.pm d=some b) (hr:aw ρ G cells' c'.toList) (hb:cells'.all bm=true) :
   Inv ρ G (w.setRow b c') (dt mem d cells') sh ae∧bZ G w G (w.setRow b c'):=by
 obtain ⟨b0,e1,e2,e3⟩:=hi.cW d cells hl
 have:b0=b:=by rw [hp] at e1;simpa using e1.symm
 subst this
 obtain ⟨hrole,c,t,hh,_⟩:=e2
 have hne:G.role b0≠.d_:=by rw [hrole];simp
 have hnt:∀τ,G.role b0≠.tok τ:=by intro τ;rw [hrole];simp
 have hA:=jr.setRow (G:=G) (w:=w) b0 c'
 refine ⟨⟨hA.known hi hne hnt,hi.bt,?_,?_,?_,?_,hi.eR,hA.tok hi hnt,hi.fo⟩,hA.oo hne⟩
 · intro k hk;rw [hA.size] at hk;exact hi.fresh k hk
 · intro d' cs hd'
   by_cases hdd:d=d'
   · subst hdd
     rw [bG] at hd'
     simp at hd';subst hd'
     exact ⟨b0,hp,⟨hrole,c',t,setRow_heap _ _ _ _ _ _ hh,hr⟩,hb⟩
   · rw [bY _ _ _ _ hdd] at hd'
     obtain ⟨b',g1,g2,g3⟩:=hi.cW d' cs hd'
     refine ⟨b',g1,⟨g2.role,?_⟩,g3⟩
     obtain ⟨c2,t2,hh2,hr2⟩:=g2.at_
     refine ⟨c2,t2,?_,hr2⟩
     rw [hA.other b']
     · exact hh2
     · rintro rfl
       have:=g2.role
       rw [hrole] at this
       simp at this
       exact hdd this
 · intro d' b' hd'
   by_cases hdd:d=d'
   · subst hdd;rw [bG];rfl
   · rw [bY _ _ _ _ hdd];exact hi.g_ d' b' hd'
 · intro s cs hs
   obtain ⟨b',g1,g2,g3⟩:=hi.dp s cs hs
   refine ⟨b',g1,⟨g2.role,?_⟩,g3⟩
   obtain ⟨o2,hh2,hr2⟩:=g2.at_
   refine ⟨o2,?_,hr2⟩
   rw [hA.other b'.1]
   · exact hh2
   · intro he
     have:=g2.role
     rw [he,hrole] at this
     simp at this
theorem Inv.uL {ρ:cr} {mem:List (Nat×List AV)} {sh:Sh} {ae:aH} (hi:Inv ρ G w mem sh ae) {s:Nat} {b:Nat×Nat} {cells cells':List AV} {w':World} {o':Obj}
   (hl:sh[s]?=some (some cells)) (hp:G.sm s=some b) (hA:jr G w w' b.1) (ho:w'.heap[b.1]?=some o') (hr:iu ρ G o' b.2 cells') (hb:cells'.all dv=true) (hf:cells'.all (aM (s+1))=true) :
   Inv ρ G w' mem (sh.set s (some cells')) ae∧bZ G w G w':=by
 obtain ⟨b0,e1,e2,e3⟩:=hi.dp s cells hl
 have:b0=b:=by rw [hp] at e1;simpa using e1.symm
 subst this
 have hrole:=e2.role
 have hne:G.role b0.1≠.d_:=by rw [hrole];simp
 have hnt:∀τ,G.role b0.1≠.tok τ:=by intro τ;rw [hrole];simp
 refine ⟨⟨hA.known hi hne hnt,hi.bt,?_,?_,hi.g_,?_,?_,hA.tok hi hnt,hi.fo⟩,hA.oo hne⟩
 · intro k hk;rw [hA.size] at hk;exact hi.fresh k hk
 · intro d' cs hd'
   obtain ⟨b',g1,g2,g3⟩:=hi.cW d' cs hd'
   refine ⟨b',g1,⟨g2.role,?_⟩,g3⟩
   obtain ⟨c2,t2,hh2,hr2⟩:=g2.at_
   refine ⟨c2,t2,?_,hr2⟩
   rw [hA.other b']
   · exact hh2
   · rintro rfl
     have:=g2.role
     rw [hrole] at this
     simp at this
 · intro s' cs hs
   rw [List.getElem?_set] at hs
   split at hs
   · rename_i he;subst he
     split at hs
     · simp at hs;subst hs
       exact ⟨b0,hp,⟨hrole,o',ho,hr⟩,hb,hf⟩
     · simp at hs
   · rename_i hne'
     obtain ⟨b',g1,g2,g3⟩:=hi.dp s' cs hs
     refine ⟨b',g1,⟨g2.role,?_⟩,g3⟩
     obtain ⟨o2,hh2,hr2⟩:=g2.at_
     refine ⟨o2,?_,hr2⟩
     rw [hA.other b'.1]
     · exact hh2
     · intro he
       have:=g2.role
       rw [he,hrole] at this
       simp at this
       exact hne' this
 · intro s' b' h;simpa using hi.eR s' b' h
theorem Inv.l4 {ρ:cr} {mem:List (Nat×List AV)} {sh:Sh} {ae:aH} (hi:Inv ρ G w mem sh ae) {s:Nat} {b:Nat×Nat} {cells cells':List AV} {c c':Array Value} {t:TypeId} {vs suf:List Value}
   (hl:sh[s]?=some (some cells)) (hp:G.sm s=some b) (hh:w.heap[b.1]?=some (.cells c t (0,0))) (hsz:c'.size=b.2) (hsp:c'.toList=vs++suf) (hr:aw ρ G cells' vs) (hb:cells'.all dv=true) (hf:cells'.all (aM (s+1))=true) :
   Inv ρ G (w.setRow b.1 c') mem (sh.set s (some cells')) ae∧bZ G w G (w.setRow b.1 c'):=
 hi.uL hl hp (jr.setRow b.1 c') (setRow_heap _ _ _ _ _ _ hh) (.inl ⟨c',t,vs,suf,rfl,hsz,hsp,hr⟩) hb hf
theorem jr.putObj (b:Nat) (o:Obj):jr G w (w.putObj b o) b:=
 ⟨by simp [World.putObj],fun _ h=>World.putObj_heap_other h,rfl,rfl,rfl⟩
theorem Inv.Jg {ρ:cr} {mem:List (Nat×List AV)} {sh:Sh} {ae:aH} (hi:Inv ρ G w mem sh ae) {s:Nat} {b:Nat×Nat} {kvs:List (PV×PV)} {cells:List AV} {es:Array MapEntry} {clock:Nat}
   (hl:sh[s]?=some (some cells)) (hp:G.sm s=some b) (hm:fR G.K kvs es.toList) :
   Inv ρ G (w.putObj b.1 (.map es clock)) mem (sh.set s (some [.dQ kvs])) ae∧bZ G w G (w.putObj b.1 (.map es clock)):=by
 obtain ⟨b0,e1,e2,e3⟩:=hi.dp s cells hl
 have:b0=b:=by rw [hp] at e1;simpa using e1.symm
 subst this
 exact hi.uL hl hp (jr.putObj _ _) (World.putObj_heap_same e2.lt) (.inr ⟨es,clock,kvs,rfl,rfl,hm⟩) rfl rfl
def Gh.d0 (G:Gh) (d b:Nat):Gh:={ G with role:=fun k=>if k=b then .lK d else G.role k,pm:=fun k=>if k=d then some b else G.pm k }
def Gh.dq (G:Gh) (s b n:Nat):Gh:={ G with role:=fun k=>if k=b then .shr s else G.role k,sm:=fun k=>if k=s then some (b,n) else G.sm k }
theorem Inv.pI {ρ:cr} {mem:List (Nat×List AV)} {sh:Sh} {ae:aH} (hi:Inv ρ G w mem sh ae) {d:Nat} {cells:List AV} {c:Array Value} (t:TypeId)
   (hl:look mem d=none) (hr:aw ρ G cells c.toList) (hb:cells.all bm=true) :
   Inv ρ (G.d0 d w.heap.size) (w.alloc (.cells c t)) (dt mem d cells) sh ae∧G.le (G.d0 d w.heap.size)∧bZ G w (G.d0 d w.heap.size) (w.alloc (.cells c t)):=by
 have hpm:G.pm d=none:=by
   cases h:G.pm d with
   | none=>rfl
   | some b=>have:=hi.g_ d b h;rw [hl] at this;simp at this
 have hle:G.le (G.d0 d w.heap.size):=⟨G.K.le_refl,fun k b h=>by
   simp only [Gh.d0]
   split
   · rename_i e;subst e;rw [hpm] at h;simp at h
   · exact h,fun _ _ h=>h,fun _ t h=>⟨t,h,⟨Nat.le_refl _,t.gZ⟩,fun _=>rfl⟩⟩
 refine ⟨⟨?_,?_,?_,?_,?_,?_,hi.eR,?_,hi.fo⟩,hle,?_⟩
 · intro b o v hk
   have hlt:b<w.heap.size:=hi.jo (o:=o) (v:=v) hk
   rw [World.cell?_alloc_lt _ _ ⟨b,o,none⟩ hlt]
   exact hi.known b o v hk
 · intro b o v hk
   have:=hi.jo (o:=o) (v:=v) hk
   simp only [Gh.d0]
   rw [if_neg (by omega)]
   exact hi.bt b o v hk
 · intro b hb'
   simp at hb'
   simp only [Gh.d0]
   rw [if_neg (by omega)]
   exact hi.fresh b (by omega)
 · intro d' cs hd'
   by_cases hdd:d=d'
   · subst hdd
     rw [bG] at hd'
     simp at hd';subst hd'
     exact ⟨w.heap.size,by simp [Gh.d0],⟨by simp [Gh.d0],c,t,heap_alloc_new,aw.mono hle hr⟩,hb⟩
   · rw [bY _ _ _ _ hdd] at hd'
     obtain ⟨b',g1,g2,g3⟩:=hi.cW d' cs hd'
     have hlt:b'<w.heap.size:=by obtain ⟨_,_,hh,_⟩:=g2.at_;exact cT hh
     exact ⟨b',by simp only [Gh.d0];rw [if_neg (Ne.symm hdd)];exact g1,g2.mono hle (by simp only [Gh.d0];rw [if_neg (by omega)]) (bR hlt),g3⟩
 · intro d' b' hd'
   by_cases hdd:d=d'
   · subst hdd;rw [bG];rfl
   · rw [bY _ _ _ _ hdd]
     simp only [Gh.d0] at hd'
     rw [if_neg (Ne.symm hdd)] at hd'
     exact hi.g_ d' b' hd'
 · intro s cs hs
   obtain ⟨b',g1,g2,g3⟩:=hi.dp s cs hs
   have hlt:b'.1<w.heap.size:=g2.lt
   exact ⟨b',g1,g2.mono hle (by simp only [Gh.d0];rw [if_neg (by omega)]) (bR hlt),g3⟩
 · intro τ n hn
   obtain ⟨tk,e1,e2,e3⟩:=hi.di τ n hn
   refine ⟨tk,e1,e2,e3.cap,e3.zero,fun hlt=>?_⟩
   obtain ⟨b,o,cc,ty,f1,f2,f3,f4,f5⟩:=e3.spare hlt
   have hb:=cT f3
   exact ⟨b,o,cc,ty,f1,by simp only [Gh.d0];rw [if_neg (by omega)];exact f2,(bR hb).trans f3,f4,f5⟩
 · exact { size:=by simp,os:=rfl,tape:=rfl,output:=rfl,K:=G.K.le_refl,sm:=fun _ _ h=>h,
           d_:=fun b hb hr=>⟨by simp only [Gh.d0];rw [if_neg (by omega)];exact hr,bR hb⟩
           iT:=fun b τ hb hr=>.inr ⟨τ,by simp only [Gh.d0];rw [if_neg (by omega)];exact hr⟩
           hH:=fun _ _ _ _ _ hk=>hk }
theorem Inv.we {ρ:cr} {mem:List (Nat×List AV)} {sh:Sh} {ae:aH} (hi:Inv ρ G w mem sh ae) {cells:List AV} {o':Obj} {N:Nat}
   (hr:iu ρ G o' N cells) (hb:cells.all dv=true) (hf:cells.all (aM (sh.length+1))=true) :
   Inv ρ (G.dq sh.length w.heap.size N) (w.alloc o') mem (sh++[some cells]) ae∧G.le (G.dq sh.length w.heap.size N)∧bZ G w (G.dq sh.length w.heap.size N) (w.alloc o'):=by
 have hsm:G.sm sh.length=none:=by
   cases h:G.sm sh.length with
   | none=>rfl
   | some b=>have:=hi.eR _ b h;omega
 have hle:G.le (G.dq sh.length w.heap.size N):=⟨G.K.le_refl,fun _ _ h=>h,fun k b h=>by
   simp only [Gh.dq]
   split
   · rename_i e;subst e;rw [hsm] at h;simp at h
   · exact h,fun _ t h=>⟨t,h,⟨Nat.le_refl _,t.gZ⟩,fun _=>rfl⟩⟩
 refine ⟨⟨?_,?_,?_,?_,hi.g_,?_,?_,?_,hi.fo⟩,hle,?_⟩
 · intro b o v hk
   have hlt:b<w.heap.size:=hi.jo (o:=o) (v:=v) hk
   rw [World.cell?_alloc_lt _ _ ⟨b,o,none⟩ hlt]
   exact hi.known b o v hk
 · intro b o v hk
   have:=hi.jo (o:=o) (v:=v) hk
   simp only [Gh.dq]
   rw [if_neg (by omega)]
   exact hi.bt b o v hk
 · intro b hb'
   simp at hb'
   simp only [Gh.dq]
   rw [if_neg (by omega)]
   exact hi.fresh b (by omega)
 · intro d' cs hd'
   obtain ⟨b',g1,g2,g3⟩:=hi.cW d' cs hd'
   have hlt:b'<w.heap.size:=by obtain ⟨_,_,hh,_⟩:=g2.at_;exact cT hh
   exact ⟨b',g1,g2.mono hle (by simp only [Gh.dq];rw [if_neg (by omega)]) (bR hlt),g3⟩
 · intro s cs hs
   rw [List.getElem?_append] at hs
   split at hs
   · obtain ⟨b',g1,g2,g3⟩:=hi.dp s cs hs
     have hlt:b'.1<w.heap.size:=g2.lt
     exact ⟨b',hle.sm _ _ g1,g2.mono hle (by simp only [Gh.dq];rw [if_neg (by omega)]) (bR hlt),g3⟩
   · rename_i hge
     have hs':s=sh.length:=by
       rcases Nat.lt_or_ge (s-sh.length) 1 with h | h
       · omega
       · rw [List.getElem?_eq_none (by simpa using h)] at hs;simp at hs
     subst hs'
     simp at hs;subst hs
     exact ⟨(w.heap.size,N),by simp [Gh.dq],⟨by simp [Gh.dq],o',heap_alloc_new,hr.mono hle⟩,hb,hf⟩
 · intro s b h
   simp only [Gh.dq] at h
   split at h
   · rename_i e;subst e;simp
   · have:=hi.eR s b h;simp;omega
 · intro τ n hn
   obtain ⟨tk,e1,e2,e3⟩:=hi.di τ n hn
   refine ⟨tk,e1,e2,e3.cap,e3.zero,fun hlt=>?_⟩
   obtain ⟨b,o,cc,ty,f1,f2,f3,f4,f5⟩:=e3.spare hlt
   have hb:=cT f3
   exact ⟨b,o,cc,ty,f1,by simp only [Gh.dq];rw [if_neg (by omega)];exact f2,(bR hb).trans f3,f4,f5⟩
 · exact { size:=by simp,os:=rfl,tape:=rfl,output:=rfl,K:=G.K.le_refl,sm:=hle.sm,
           d_:=fun b hb hr=>⟨by simp only [Gh.dq];rw [if_neg (by omega)];exact hr,bR hb⟩
           iT:=fun b τ hb hr=>.inr ⟨τ,by simp only [Gh.dq];rw [if_neg (by omega)];exact hr⟩
           hH:=fun _ _ _ _ _ hk=>hk }
theorem Inv.oG {ρ:cr} {mem:List (Nat×List AV)} {sh:Sh} {ae:aH} (hi:Inv ρ G w mem sh ae) {cells:List AV} {c:Array Value} (t:TypeId)
   (hr:aw ρ G cells c.toList) (hb:cells.all dv=true) (hf:cells.all (aM (sh.length+1))=true) :
   Inv ρ (G.dq sh.length w.heap.size c.size) (w.alloc (.cells c t)) mem (sh++[some cells]) ae∧G.le (G.dq sh.length w.heap.size c.size)∧bZ G w (G.dq sh.length w.heap.size c.size) (w.alloc (.cells c t)):=
 hi.we (iu.full hr) hb hf
theorem Inv.allocMap {ρ:cr} {mem:List (Nat×List AV)} {sh:Sh} {ae:aH} (hi:Inv ρ G w mem sh ae) :
   Inv ρ (G.dq sh.length w.heap.size 0) (w.alloc (.map #[] 0)) mem (sh++[some [.dQ []]]) ae∧G.le (G.dq sh.length w.heap.size 0)∧bZ G w (G.dq sh.length w.heap.size 0) (w.alloc (.map #[] 0)):=
 hi.we (.inr ⟨#[],0,[],rfl,rfl,rfl⟩) rfl rfl
end
end Go.Ab
