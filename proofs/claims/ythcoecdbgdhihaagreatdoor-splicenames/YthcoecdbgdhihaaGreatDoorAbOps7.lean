import Derived.Test.YthcoecdbgdhihaaGreatDoorAbOps6
import Derived.Laws.Tables
import Derived.RangeFuncRecord
/-
  Operations with memory.
-/
set_option linter.unusedVariables false
set_option linter.unusedSimpArgs false
set_option linter.unnecessarySimpa false
set_option maxRecDepth 100000
set_option maxHeartbeats 8000000
namespace Go.Ab
section
variable {P:Program} {ns:Names} {G:Gh} {w:World}
theorem bX {α:Type}:∀(l:List (Nat×α)) (k:Nat) (v:α),look (dO l k v) k=some v
 | [],k,v=>by simp [dO,look]
 | (k',u)::r,k,v=>by
   simp only [dO];split
   · rename_i h;simp [look,h]
   · rename_i h;simp [look,h,bX r k v]
theorem cr {α:Type}:∀(l:List (Nat×α)) (k k':Nat) (v:α),k≠k'→look (dO l k v) k'=look l k'
 | [],k,k',v,h=>by simp [dO,look,h]
 | (k0,u)::r,k,k',v,h=>by
   simp only [dO];split
   · rename_i h0;subst h0;simp [look,h]
   · simp only [look];split
     · rfl
     · exact cr r k k' v h
structure kN (G:Gh) (w w':World) (b:Nat):Prop where
 size:w'.heap.size=w.heap.size
 other:∀k,k≠b→w'.heap[k]?=w.heap[k]?
 os:w'.os=w.os
 tape:w'.tape=w.tape
 output:w'.output=w.output
theorem kN.setRow (b:Nat) (c:Array Value):kN G w (w.setRow b c) b:=
 ⟨setRow_size _ _ _,fun k h=>setRow_other _ _ _ _ h,rfl,rfl,rfl⟩
theorem kN.pn {w':World} {b:Nat} (h:kN G w w' b) (hb:G.role b≠.eE):cq G w G w' where
 size:=by rw [h.size];exact Nat.le_refl _
 os:=h.os
 tape:=h.tape
 output:=h.output
 K:=G.K.le_refl
 sm:=fun _ _ h=>h
 eE:=fun _ _ hr=>⟨hr,h.other _ (fun e=>hb (e ▸ hr))⟩
 iG:=fun _ τ _ hr=>.inr ⟨τ,hr⟩
 gO:=fun _ _ _ _ _ hk=>hk
theorem kN.known {ρ:cy} {mem:List (Nat×List AV)} {sh:Sh} {ah:aN} (hi:Inv ρ G w mem sh ah) {w':World} {b:Nat} (h:kN G w w' b)
   (hb:G.role b≠.eE) (hbt:∀τ,G.role b≠.tok τ):∀b' o v,G.K b' o=some v→w'.cell? ⟨b',o,none⟩=some v:=by
 intro b' o v hk;have hne:b'≠b:=by
   rintro rfl
   rcases hi.bz _ _ _ hk with h1 | ⟨τ,h1⟩
   · exact hb h1
   · exact hbt τ h1
 have:=hi.known b' o v hk;unfold World.cell? at this ⊢;simp only at this ⊢;rw [h.other b' hne];exact this
theorem kN.tok {ρ:cy} {mem:List (Nat×List AV)} {sh:Sh} {ah:aN} (hi:Inv ρ G w mem sh ah) {w':World} {b:Nat} (h:kN G w w' b)
   (hbt:∀τ,G.role b≠.tok τ):∀τ n,ah[τ]?=some n→∃t,G.tk τ=some t∧t.len=n∧Og G w' τ t:=by
 intro τ n hn;obtain ⟨t,e1,e2,e3⟩:=hi.dI τ n hn;refine ⟨t,e1,e2,e3.cap,e3.zero,fun hlt=>?_⟩;obtain ⟨b',o,c,ty,f1,f2,f3,f4,f5⟩:=e3.spare hlt;exact ⟨b',o,c,ty,f1,f2,by rw [h.other b' (fun e=>hbt τ (e ▸ f2))];exact f3,f4,f5⟩
theorem Inv.Dz {ρ:cy} {mem:List (Nat×List AV)} {sh:Sh} {ah:aN} (hi:Inv ρ G w mem sh ah) {d b:Nat} {cells cells':List AV} {c':Array Value}
   (hl:look mem d=some cells) (hp:G.pm d=some b) (hr:aB ρ G cells' c'.toList) (hb:cells'.all bp=true) :
   Inv ρ G (w.setRow b c') (dO mem d cells') sh ah∧cq G w G (w.setRow b c'):=by
 obtain ⟨b0,e1,e2,e3⟩:=hi.dq d cells hl;have:b0=b:=by rw [hp] at e1;simpa using e1.symm
 subst this;obtain ⟨hrole,c,t,hh,_⟩:=e2;have hne:G.role b0≠.eE:=by rw [hrole];simp
 have hnt:∀τ,G.role b0≠.tok τ:=by intro τ;rw [hrole];simp
 have hA:=kN.setRow (G:=G) (w:=w) b0 c';refine ⟨⟨hA.known hi hne hnt,hi.bz,?_,?_,?_,?_,hi.eJ,hA.tok hi hnt,hi.fc,hi.h_ (hA.pn hne)⟩,hA.pn hne⟩
 · intro k hk;rw [hA.size] at hk;exact hi.fresh k hk
 · intro d' cs hd';by_cases hdd:d=d'
   · subst hdd;rw [bX] at hd';simp at hd';subst hd';exact ⟨b0,hp,⟨hrole,c',t,setRow_heap _ _ _ _ _ _ hh,hr⟩,hb⟩
   · rw [cr _ _ _ _ hdd] at hd';obtain ⟨b',g1,g2,g3⟩:=hi.dq d' cs hd';refine ⟨b',g1,⟨g2.role,?_⟩,g3⟩;obtain ⟨c2,t2,hh2,hr2⟩:=g2.at_;refine ⟨c2,t2,?_,hr2⟩;rw [hA.other b']
     · exact hh2
     · rintro rfl
       have:=g2.role;rw [hrole] at this;simp at this;exact hdd this
 · intro d' b' hd';by_cases hdd:d=d'
   · subst hdd;rw [bX];rfl
   · rw [cr _ _ _ _ hdd];exact hi.gN d' b' hd'
 · intro s cs hs;obtain ⟨b',g1,g2,g3⟩:=hi.dP s cs hs;refine ⟨b',g1,⟨g2.role,?_⟩,g3⟩;obtain ⟨o2,hh2,hr2⟩:=g2.at_;refine ⟨o2,?_,hr2⟩;rw [hA.other b'.1]
   · exact hh2
   · intro he;have:=g2.role;rw [he,hrole] at this;simp at this
theorem Inv.DA {ρ:cy} {mem:List (Nat×List AV)} {sh:Sh} {ah:aN} (hi:Inv ρ G w mem sh ah) {s:Nat} {b:Nat×Nat} {cells cells':List AV} {w':World} {o':Obj}
   (hl:sh[s]?=some (some cells)) (hp:G.sm s=some b) (hA:kN G w w' b.1) (ho:w'.heap[b.1]?=some o') (hr:Holds ρ G o' b.2 cells') (hb:cells'.all dS=true) (hf:cells'.all (aW (s+1))=true) :
   Inv ρ G w' mem (sh.set s (some cells')) ah∧cq G w G w':=by
 obtain ⟨b0,e1,e2,e3⟩:=hi.dP s cells hl;have:b0=b:=by rw [hp] at e1;simpa using e1.symm
 subst this;have hrole:=e2.role;have hne:G.role b0.1≠.eE:=by rw [hrole];simp
 have hnt:∀τ,G.role b0.1≠.tok τ:=by intro τ;rw [hrole];simp
 refine ⟨⟨hA.known hi hne hnt,hi.bz,?_,?_,hi.gN,?_,?_,hA.tok hi hnt,hi.fc,hi.h_ (hA.pn hne)⟩,hA.pn hne⟩
 · intro k hk;rw [hA.size] at hk;exact hi.fresh k hk
 · intro d' cs hd';obtain ⟨b',g1,g2,g3⟩:=hi.dq d' cs hd';refine ⟨b',g1,⟨g2.role,?_⟩,g3⟩;obtain ⟨c2,t2,hh2,hr2⟩:=g2.at_;refine ⟨c2,t2,?_,hr2⟩;rw [hA.other b']
   · exact hh2
   · rintro rfl
     have:=g2.role;rw [hrole] at this;simp at this
 · intro s' cs hs;rw [List.getElem?_set] at hs;split at hs
   · rename_i he;subst he;split at hs
     · simp at hs;subst hs;exact ⟨b0,hp,⟨hrole,o',ho,hr⟩,hb,hf⟩
     · simp at hs
   · rename_i hne';obtain ⟨b',g1,g2,g3⟩:=hi.dP s' cs hs;refine ⟨b',g1,⟨g2.role,?_⟩,g3⟩;obtain ⟨o2,hh2,hr2⟩:=g2.at_;refine ⟨o2,?_,hr2⟩;rw [hA.other b'.1]
     · exact hh2
     · intro he;have:=g2.role;rw [he,hrole] at this;simp at this;exact hne' this
 · intro s' b' h;simpa using hi.eJ s' b' h
theorem Inv.nA {ρ:cy} {mem:List (Nat×List AV)} {sh:Sh} {ah:aN} (hi:Inv ρ G w mem sh ah) {s:Nat} {b:Nat×Nat} {cells cells':List AV} {c c':Array Value} {t:TypeId} {vs suf:List Value}
   (hl:sh[s]?=some (some cells)) (hp:G.sm s=some b) (hh:w.heap[b.1]?=some (.cells c t (0,0))) (hsz:c'.size=b.2) (hsp:c'.toList=vs++suf) (hr:aB ρ G cells' vs) (hb:cells'.all dS=true) (hf:cells'.all (aW (s+1))=true) :
   Inv ρ G (w.setRow b.1 c') mem (sh.set s (some cells')) ah∧cq G w G (w.setRow b.1 c'):=
 hi.DA hl hp (kN.setRow b.1 c') (setRow_heap _ _ _ _ _ _ hh) (.inl ⟨c',t,vs,suf,rfl,hsz,hsp,hr⟩) hb hf
def Gh.dD (G:Gh) (d b:Nat):Gh:={ G with role:=fun k=>if k=b then .kT d else G.role k,pm:=fun k=>if k=d then some b else G.pm k }
def Gh.dQ (G:Gh) (s b n:Nat):Gh:={ G with role:=fun k=>if k=b then .shr s else G.role k,sm:=fun k=>if k=s then some (b,n) else G.sm k }
theorem Inv.oF {ρ:cy} {mem:List (Nat×List AV)} {sh:Sh} {ah:aN} (hi:Inv ρ G w mem sh ah) {d:Nat} {cells:List AV} {c:Array Value} (t:TypeId)
   (hl:look mem d=none) (hr:aB ρ G cells c.toList) (hb:cells.all bp=true) :
   Inv ρ (G.dD d w.heap.size) (w.alloc (.cells c t)) (dO mem d cells) sh ah∧G.le (G.dD d w.heap.size)∧cq G w (G.dD d w.heap.size) (w.alloc (.cells c t)):=by
 have hpm:G.pm d=none:=by
   cases h:G.pm d with
   | none=>rfl
   | some b=>have:=hi.gN d b h;rw [hl] at this;simp at this
 have hle:G.le (G.dD d w.heap.size):=⟨G.K.le_refl,fun k b h=>by
   simp only [Gh.dD];split
   · rename_i e;subst e;rw [hpm] at h;simp at h
   · exact h,fun _ _ h=>h,fun _ t h=>⟨t,h,⟨Nat.le_refl _,t.gM⟩,fun _=>rfl⟩⟩
 have hevo:cq G w (G.dD d w.heap.size) (w.alloc (.cells c t)):={
           size:=by simp,os:=rfl,tape:=rfl,output:=rfl,K:=G.K.le_refl,sm:=fun _ _ h=>h,
           eE:=fun b hb hr=>⟨by simp only [Gh.dD];rw [if_neg (by omega)];exact hr,bR hb⟩
           iG:=fun b τ hb hr=>.inr ⟨τ,by simp only [Gh.dD];rw [if_neg (by omega)];exact hr⟩
           gO:=fun _ _ _ _ _ hk=>hk }
 refine ⟨⟨?_,?_,?_,?_,?_,?_,hi.eJ,?_,hi.fc,hi.h_ hevo⟩,hle,hevo⟩
 · intro b o v hk;have hlt:b<w.heap.size:=hi.i_ (o:=o) (v:=v) hk;rw [World.cell?_alloc_lt _ _ ⟨b,o,none⟩ hlt];exact hi.known b o v hk
 · intro b o v hk;have:=hi.i_ (o:=o) (v:=v) hk;simp only [Gh.dD];rw [if_neg (by omega)];exact hi.bz b o v hk
 · intro b hb';simp at hb';simp only [Gh.dD];rw [if_neg (by omega)];exact hi.fresh b (by omega)
 · intro d' cs hd';by_cases hdd:d=d'
   · subst hdd;rw [bX] at hd';simp at hd';subst hd';exact ⟨w.heap.size,by simp [Gh.dD],⟨by simp [Gh.dD],c,t,heap_alloc_new,aB.mono hle hr⟩,hb⟩
   · rw [cr _ _ _ _ hdd] at hd';obtain ⟨b',g1,g2,g3⟩:=hi.dq d' cs hd';have hlt:b'<w.heap.size:=by obtain ⟨_,_,hh,_⟩:=g2.at_;exact cQ hh
     exact ⟨b',by simp only [Gh.dD];rw [if_neg (Ne.symm hdd)];exact g1,g2.mono hle (by simp only [Gh.dD];rw [if_neg (by omega)]) (bR hlt),g3⟩
 · intro d' b' hd';by_cases hdd:d=d'
   · subst hdd;rw [bX];rfl
   · rw [cr _ _ _ _ hdd];simp only [Gh.dD] at hd';rw [if_neg (Ne.symm hdd)] at hd';exact hi.gN d' b' hd'
 · intro s cs hs;obtain ⟨b',g1,g2,g3⟩:=hi.dP s cs hs;have hlt:b'.1<w.heap.size:=g2.lt;exact ⟨b',g1,g2.mono hle (by simp only [Gh.dD];rw [if_neg (by omega)]) (bR hlt),g3⟩
 · intro τ n hn;obtain ⟨tk,e1,e2,e3⟩:=hi.dI τ n hn;refine ⟨tk,e1,e2,e3.cap,e3.zero,fun hlt=>?_⟩;obtain ⟨b,o,cc,ty,f1,f2,f3,f4,f5⟩:=e3.spare hlt;have hb:=cQ f3;exact ⟨b,o,cc,ty,f1,by simp only [Gh.dD];rw [if_neg (by omega)];exact f2,(bR hb).trans f3,f4,f5⟩
theorem Inv.zT {ρ:cy} {mem:List (Nat×List AV)} {sh:Sh} {ah:aN} (hi:Inv ρ G w mem sh ah) {cells:List AV} {o':Obj} {N:Nat}
   (hr:Holds ρ G o' N cells) (hb:cells.all dS=true) (hf:cells.all (aW (sh.length+1))=true) :
   Inv ρ (G.dQ sh.length w.heap.size N) (w.alloc o') mem (sh++[some cells]) ah∧G.le (G.dQ sh.length w.heap.size N)∧cq G w (G.dQ sh.length w.heap.size N) (w.alloc o'):=by
 have hsm:G.sm sh.length=none:=by
   cases h:G.sm sh.length with
   | none=>rfl
   | some b=>have:=hi.eJ _ b h;omega
 have hle:G.le (G.dQ sh.length w.heap.size N):=⟨G.K.le_refl,fun _ _ h=>h,fun k b h=>by
   simp only [Gh.dQ];split
   · rename_i e;subst e;rw [hsm] at h;simp at h
   · exact h,fun _ t h=>⟨t,h,⟨Nat.le_refl _,t.gM⟩,fun _=>rfl⟩⟩
 have hevo:cq G w (G.dQ sh.length w.heap.size N) (w.alloc o'):={
           size:=by simp,os:=rfl,tape:=rfl,output:=rfl,K:=G.K.le_refl,sm:=hle.sm,
           eE:=fun b hb hr=>⟨by simp only [Gh.dQ];rw [if_neg (by omega)];exact hr,bR hb⟩
           iG:=fun b τ hb hr=>.inr ⟨τ,by simp only [Gh.dQ];rw [if_neg (by omega)];exact hr⟩
           gO:=fun _ _ _ _ _ hk=>hk }
 refine ⟨⟨?_,?_,?_,?_,hi.gN,?_,?_,?_,hi.fc,hi.h_ hevo⟩,hle,hevo⟩
 · intro b o v hk;have hlt:b<w.heap.size:=hi.i_ (o:=o) (v:=v) hk;rw [World.cell?_alloc_lt _ _ ⟨b,o,none⟩ hlt];exact hi.known b o v hk
 · intro b o v hk;have:=hi.i_ (o:=o) (v:=v) hk;simp only [Gh.dQ];rw [if_neg (by omega)];exact hi.bz b o v hk
 · intro b hb';simp at hb';simp only [Gh.dQ];rw [if_neg (by omega)];exact hi.fresh b (by omega)
 · intro d' cs hd';obtain ⟨b',g1,g2,g3⟩:=hi.dq d' cs hd';have hlt:b'<w.heap.size:=by obtain ⟨_,_,hh,_⟩:=g2.at_;exact cQ hh
   exact ⟨b',g1,g2.mono hle (by simp only [Gh.dQ];rw [if_neg (by omega)]) (bR hlt),g3⟩
 · intro s cs hs;rw [List.getElem?_append] at hs;split at hs
   · obtain ⟨b',g1,g2,g3⟩:=hi.dP s cs hs;have hlt:b'.1<w.heap.size:=g2.lt;exact ⟨b',hle.sm _ _ g1,g2.mono hle (by simp only [Gh.dQ];rw [if_neg (by omega)]) (bR hlt),g3⟩
   · rename_i hge;have hs':s=sh.length:=by
       rcases Nat.lt_or_ge (s-sh.length) 1 with h | h
       · omega
       · rw [List.getElem?_eq_none (by simpa using h)] at hs;simp at hs
     subst hs';simp at hs;subst hs;exact ⟨(w.heap.size,N),by simp [Gh.dQ],⟨by simp [Gh.dQ],o',heap_alloc_new,hr.mono hle⟩,hb,hf⟩
 · intro s b h;simp only [Gh.dQ] at h;split at h
   · rename_i e;subst e;simp
   · have:=hi.eJ s b h;simp;omega
 · intro τ n hn;obtain ⟨tk,e1,e2,e3⟩:=hi.dI τ n hn;refine ⟨tk,e1,e2,e3.cap,e3.zero,fun hlt=>?_⟩;obtain ⟨b,o,cc,ty,f1,f2,f3,f4,f5⟩:=e3.spare hlt;have hb:=cQ f3;exact ⟨b,o,cc,ty,f1,by simp only [Gh.dQ];rw [if_neg (by omega)];exact f2,(bR hb).trans f3,f4,f5⟩
theorem Inv.q_ {ρ:cy} {mem:List (Nat×List AV)} {sh:Sh} {ah:aN} (hi:Inv ρ G w mem sh ah) {cells:List AV} {c:Array Value} (t:TypeId)
   (hr:aB ρ G cells c.toList) (hb:cells.all dS=true) (hf:cells.all (aW (sh.length+1))=true) :
   Inv ρ (G.dQ sh.length w.heap.size c.size) (w.alloc (.cells c t)) mem (sh++[some cells]) ah∧G.le (G.dQ sh.length w.heap.size c.size)∧cq G w (G.dQ sh.length w.heap.size c.size) (w.alloc (.cells c t)):=
 hi.zT (Holds.full hr) hb hf
end
end Go.Ab
