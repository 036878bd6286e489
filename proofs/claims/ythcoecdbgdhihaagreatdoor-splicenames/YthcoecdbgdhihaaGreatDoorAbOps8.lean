import Derived.Test.YthcoecdbgdhihaaGreatDoorAbOps7
/-
  append.
-/
set_option linter.unusedVariables false
set_option linter.unusedSimpArgs false
set_option linter.unnecessarySimpa false
set_option maxRecDepth 100000
set_option maxHeartbeats 8000000
namespace Go.Ab
section
variable {P:Program} {ns:Names} {G:Gh} {w:World}
structure mQ (G:Gh) (ah toks':aN) (τ n:Nat):Prop where
 at_:toks'[τ]?=some n
 other:∀σ,σ≠τ→toks'[σ]?=ah[σ]?
 aY:∀t,G.tk τ=some t→t.len<n
def Gh.bZ (G:Gh) (τ:Nat) (t:Tk) (role:Nat→lr) (K:bJ):Gh:=
 { G with K,role,tk:=fun σ=>if σ=τ then some t else G.tk σ }
theorem Gh.oG {τ:Nat} {t:Tk} {role:Nat→lr} {K:bJ} (hK:G.K.le K) (ho:∀t0,G.tk τ=some t0→(t0.len≤t.len∧t0.on t)∧(t0.len=t.len→t=t0)):G.le (G.bZ τ t role K) where
 K:=hK
 pm:=fun _ _ h=>h
 sm:=fun _ _ h=>h
 tk:=fun σ t0 h=>by
   simp only [Gh.bZ];by_cases hσ:σ=τ
   · subst hσ;simp only [if_true];obtain ⟨h1,h2⟩:=ho t0 h;exact ⟨t,rfl,h1,h2⟩
   · rw [if_neg hσ];exact ⟨t0,h,⟨Nat.le_refl _,Tk.gM _⟩,fun _=>rfl⟩
def eL (G:Gh) (b τ:Nat):Nat→lr:=fun k=>if k=b then .tok τ else if G.role k=.tok τ then .eE else G.role k
def ja (G:Gh) (b m:Nat) (c:Array Value):bJ:=fun k o=>if k=b then (if o<m then c[o]? else none) else G.K k o
theorem Inv.grow {ρ:cy} {mem:List (Nat×List AV)} {sh:Sh} {ah toks':aN} (hi:Inv ρ G w mem sh ah) {τ:Nat} {t:Tk} {c:Array Value} (ty:TypeId)
   (hb:t.base=some ⟨w.heap.size,0,none⟩) (hc:t.cap*t.sz≤c.size) (hl:t.len≤t.cap) (h0:0<t.len) (hu:mQ G ah toks' τ t.len) (hg:∀t0,G.tk τ=some t0→¬t0.dead∧t0.cap<t.len) :
   Inv ρ (G.bZ τ t (eL G w.heap.size τ) (ja G w.heap.size (t.len*t.sz) c)) (w.alloc (.cells c ty)) mem sh toks' ∧
   G.le (G.bZ τ t (eL G w.heap.size τ) (ja G w.heap.size (t.len*t.sz) c)) ∧
   cq G w (G.bZ τ t (eL G w.heap.size τ) (ja G w.heap.size (t.len*t.sz) c)) (w.alloc (.cells c ty)):=by
 have hK:G.K.le (ja G w.heap.size (t.len*t.sz) c):=fun b o v hk=>by
   have:=hi.i_ hk;simp only [ja];rw [if_neg (by omega)];exact hk
 have hle:G.le (G.bZ τ t (eL G w.heap.size τ) (ja G w.heap.size (t.len*t.sz) c)):=
   Gh.oG hK fun t0 h=>by have:=hu.aY t0 h;exact ⟨⟨by omega,fun d=>absurd d (hg t0 h).1,.inr (.inl (hg t0 h).2)⟩,by omega⟩
 have hrole:∀b r,b<w.heap.size→G.role b=r→(∀σ,r≠.tok σ)→eL G w.heap.size τ b=r:=by
   intro b r hb hr hn;simp only [eL];rw [if_neg (by omega),if_neg (by rw [hr];exact hn τ),hr]
 have hevo:cq G w (G.bZ τ t (eL G w.heap.size τ) (ja G w.heap.size (t.len*t.sz) c)) (w.alloc (.cells c ty)):={
           size:=by simp,os:=rfl,tape:=rfl,output:=rfl,K:=hK,sm:=fun _ _ h=>h,
           eE:=fun b hb hr=>⟨hrole b _ hb hr (by simp),bR hb⟩
           iG:=fun b σ hb hr=>by
             simp only [Gh.bZ,eL];rw [if_neg (by omega)];split
             · exact .inl rfl
             · exact .inr ⟨σ,hr⟩
           gO:=fun b o v hb _ hk=>by
             simp only [Gh.bZ,ja] at hk
             rwa [if_neg (by omega)] at hk }
 refine ⟨⟨?_,?_,?_,?_,hi.gN,?_,hi.eJ,?_,?_,hi.h_ hevo⟩,hle,hevo⟩
 · intro b o v hk;simp only [Gh.bZ,ja] at hk;split at hk
   · rename_i e;subst e;split at hk
     · simp [hk]
     · simp at hk
   · have hlt:b<w.heap.size:=hi.i_ (o:=o) (v:=v) hk;rw [World.cell?_alloc_lt _ _ ⟨b,o,none⟩ hlt];exact hi.known b o v hk
 · intro b o v hk;simp only [Gh.bZ,ja] at hk;simp only [Gh.bZ,eL];split at hk
   · rename_i e;subst e;exact .inr ⟨τ,by simp⟩
   · rename_i e;rw [if_neg e];split
     · exact .inl rfl
     · exact hi.bz b o v hk
 · intro b hb';simp at hb';simp only [Gh.bZ,eL];rw [if_neg (by omega)];have:=hi.fresh b (by omega);rw [this];simp
 · intro d cs hd;obtain ⟨b',g1,g2,g3⟩:=hi.dq d cs hd;have hlt:b'<w.heap.size:=by obtain ⟨_,_,hh,_⟩:=g2.at_;exact cQ hh
   exact ⟨b',g1,g2.mono hle ((hrole b' _ hlt g2.role (by simp)).trans g2.role.symm) (bR hlt),g3⟩
 · intro s cs hs;obtain ⟨b',g1,g2,g3⟩:=hi.dP s cs hs;have hlt:b'.1<w.heap.size:=g2.lt;exact ⟨b',g1,g2.mono hle ((hrole b'.1 _ hlt g2.role (by simp)).trans g2.role.symm) (bR hlt),g3⟩
 · intro σ n hn;by_cases hσ:σ=τ
   · subst hσ;rw [hu.at_] at hn;simp at hn;refine ⟨t,by simp [Gh.bZ],hn,hl,fun h=>by omega,fun hlt=>⟨w.heap.size,0,c,ty,hb,by simp [Gh.bZ,eL],heap_alloc_new,by omega,fun j v hk=>?_⟩⟩;simp only [Gh.bZ,ja,if_true] at hk;split at hk
     · omega
     · simp at hk
   · rw [hu.other σ hσ] at hn;obtain ⟨t0,e1,e2,e3⟩:=hi.dI σ n hn;refine ⟨t0,by simp only [Gh.bZ];rw [if_neg hσ];exact e1,e2,e3.cap,e3.zero,fun hlt=>?_⟩;obtain ⟨b',o,cc,ty',f1,f2,f3,f4,f5⟩:=e3.spare hlt;have hb':=cQ f3;refine ⟨b',o,cc,ty',f1,?_,(bR hb').trans f3,f4,fun j v hk=>f5 j v ?_⟩
     · simp only [Gh.bZ,eL];rw [if_neg (by omega),if_neg (by rw [f2];simp;exact hσ)];exact f2
     · simp only [Gh.bZ,ja] at hk
       rwa [if_neg (by omega)] at hk
 · intro σ t0 h;simp only [Gh.bZ] at h;split at h
   · rename_i e;subst e;simp at h;subst h;exact hu.at_
   · rename_i e;rw [hu.other σ e];exact hi.fc σ t0 h
theorem Inv.JN {ρ:cy} {mem:List (Nat×List AV)} {sh:Sh} {ah toks':aN} (hi:Inv ρ G w mem sh ah) {τ:Nat} {t:Tk}
   (hl:t.cap=t.len) (hown:t.own=false) (hn:G.tk τ=none) (h1:toks'[τ]?=some t.len) (h2:∀σ,σ≠τ→toks'[σ]?=ah[σ]?) :
   Inv ρ (G.bZ τ t G.role G.K) w mem sh toks'∧G.le (G.bZ τ t G.role G.K)∧cq G w (G.bZ τ t G.role G.K) w:=by
 have hle:G.le (G.bZ τ t G.role G.K):=Gh.oG G.K.le_refl fun t0 h=>by rw [hn] at h;simp at h
 have hevo:cq G w (G.bZ τ t G.role G.K) w:={
           size:=Nat.le_refl _,os:=rfl,tape:=rfl,output:=rfl,K:=G.K.le_refl,sm:=fun _ _ h=>h,
           eE:=fun b hb hr=>⟨hr,rfl⟩,iG:=fun b σ hb hr=>.inr ⟨σ,hr⟩,gO:=fun _ _ _ _ _ hk=>hk }
 refine ⟨⟨hi.known,hi.bz,hi.fresh,?_,hi.gN,?_,hi.eJ,?_,?_,hi.h_ hevo⟩,hle,hevo⟩
 · intro d cs hd;obtain ⟨b',g1,g2,g3⟩:=hi.dq d cs hd;exact ⟨b',g1,g2.mono hle rfl rfl,g3⟩
 · intro d cs hd;obtain ⟨b',g1,g2,g3⟩:=hi.dP d cs hd;exact ⟨b',g1,g2.mono hle rfl rfl,g3⟩
 · intro σ n hn';by_cases hσ:σ=τ
   · subst hσ;rw [h1] at hn';simp at hn';exact ⟨t,by simp [Gh.bZ],hn',by omega,fun _=>by omega,fun h=>h.elim (fun h=>by omega) (fun h=>by rw [hown] at h;cases h)⟩
   · rw [h2 σ hσ] at hn';obtain ⟨t0,e1,e2,e3⟩:=hi.dI σ n hn';exact ⟨t0,by simp only [Gh.bZ];rw [if_neg hσ];exact e1,e2,e3.cap,e3.zero,e3.spare⟩
 · intro σ t0 h;simp only [Gh.bZ] at h;split at h
   · rename_i e;subst e;simp at h;subst h;exact h1
   · rename_i e;rw [h2 σ e];exact hi.fc σ t0 h
def jb (G:Gh) (b o:Nat) (l:List Value):bJ:=fun k j=>if k=b∧o≤j∧j<o+l.length then l[j-o]? else G.K k j
theorem Inv.fill {ρ:cy} {mem:List (Nat×List AV)} {sh:Sh} {ah toks':aN} (hi:Inv ρ G w mem sh ah) {τ b o n:Nat} {t:Tk} {c c':Array Value} {ty:TypeId} {l:List Value}
   (ht:G.tk τ=some t) (hb:t.base=some ⟨b,o,none⟩) (hrole:G.role b=.tok τ) (hh:w.heap[b]?=some (.cells c ty (0,0))) (hcap:o+t.cap*t.sz≤c.size)
   (hfree:∀j v,G.K b j=some v→j<o+t.len*t.sz) (hl:l.length=n*t.sz) (hn:0<n) (hfit:t.len+n≤t.cap)
   (hc':c'=(c.toList.take (o+t.len*t.sz)++l++c.toList.drop (o+t.len*t.sz+l.length)).toArray) (hu:mQ G ah toks' τ (t.len+n)) :
   Inv ρ (G.bZ τ { t with len:=t.len+n,own:=true } G.role (jb G b (o+t.len*t.sz) l)) (w.setRow b c') mem sh toks' ∧
   G.le (G.bZ τ { t with len:=t.len+n,own:=true } G.role (jb G b (o+t.len*t.sz) l)) ∧
   cq G w (G.bZ τ { t with len:=t.len+n,own:=true } G.role (jb G b (o+t.len*t.sz) l)) (w.setRow b c'):=by
 have hne:G.role b≠.eE:=by rw [hrole];simp
 have hmul:(t.len+n)*t.sz=t.len*t.sz+n*t.sz:=Nat.add_mul _ _ _;have hmul2:(t.len+n)*t.sz≤t.cap*t.sz:=Nat.mul_le_mul_right _ hfit;have hsz:c'.size=c.size:=by
   subst hc';simp;omega
 have hK:G.K.le (jb G b (o+t.len*t.sz) l):=fun k j v hk=>by
   simp only [jb];rw [if_neg]
   · exact hk
   · rintro ⟨rfl,h1,_⟩
     have:=hfree j v hk;omega
 have hle:G.le (G.bZ τ { t with len:=t.len+n,own:=true } G.role (jb G b (o+t.len*t.sz) l)):=
   Gh.oG hK fun t0 h=>by rw [ht] at h;simp at h;subst h;exact ⟨⟨by simp,fun d=>(by rw [Tk.dead,hb] at d;simp at d),.inr (.inr ⟨rfl,rfl,.inr rfl⟩)⟩,by simp;omega⟩
 have hA:=kN.setRow (G:=G) (w:=w) b c';have hnew:(w.setRow b c').heap[b]?=some (.cells c' ty (0,0)):=setRow_heap _ _ _ _ _ _ hh;have hevo:cq G w (G.bZ τ { t with len:=t.len+n,own:=true } G.role (jb G b (o+t.len*t.sz) l)) (w.setRow b c'):={
           size:=by rw [hA.size];exact Nat.le_refl _,os:=rfl,tape:=rfl,output:=rfl,K:=hK,sm:=fun _ _ h=>h,
           eE:=fun k hk hr=>⟨hr,hA.other k (fun e=>hne (e ▸ hr))⟩
           iG:=fun k σ hk hr=>.inr ⟨σ,hr⟩
           gO:=fun k j v hk hr hkk=>by
             simp only [Gh.bZ,jb] at hkk
             rwa [if_neg (by rintro ⟨e,_⟩;subst e;exact hne hr)] at hkk }
 refine ⟨⟨?_,?_,?_,?_,hi.gN,?_,hi.eJ,?_,?_,hi.h_ hevo⟩,hle,hevo⟩
 · intro k j v hk;simp only [Gh.bZ,jb] at hk;split at hk
   · rename_i e;obtain ⟨rfl,e1,e2⟩:=e;simp only [World.cell?,hnew];subst hc';simp only [Option.isSome_none,Bool.false_eq_true,if_false,List.getElem?_toArray];rw [List.getElem?_append_left (by simp;omega),List.getElem?_append_right (by simp;omega)];have:(c.toList.take (o+t.len*t.sz)).length=o+t.len*t.sz:=by simp;omega
     rw [this];exact hk
   · rename_i e;by_cases hkb:k=b
     · subst hkb;have hj:=hfree j v hk;have hold:=hi.known k j v hk;simp only [World.cell?,hh,Option.isSome_none,Bool.false_eq_true,if_false] at hold;simp only [World.cell?,hnew];subst hc';simp only [Option.isSome_none,Bool.false_eq_true,if_false,List.getElem?_toArray];rw [List.getElem?_append_left (by simp;omega),List.getElem?_append_left (by simp;omega),List.getElem?_take,if_pos hj];simpa using hold
     · have hold:=hi.known k j v hk;unfold World.cell? at hold ⊢;simp only at hold ⊢;rw [hA.other k hkb];exact hold
 · intro k j v hk;simp only [Gh.bZ,jb] at hk;split at hk
   · rename_i e;obtain ⟨rfl,_⟩:=e;exact .inr ⟨τ,hrole⟩
   · exact hi.bz k j v hk
 · intro k hk;rw [hA.size] at hk;exact hi.fresh k hk
 · intro d cs hd;obtain ⟨b',g1,g2,g3⟩:=hi.dq d cs hd;refine ⟨b',g1,g2.mono hle rfl (hA.other b' ?_),g3⟩
   rintro rfl
   have:=g2.role;rw [hrole] at this;simp at this
 · intro d cs hd;obtain ⟨b',g1,g2,g3⟩:=hi.dP d cs hd;refine ⟨b',g1,g2.mono hle rfl (hA.other b'.1 ?_),g3⟩;intro he;have:=g2.role;rw [he,hrole] at this;simp at this
 · intro σ m hm;by_cases hσ:σ=τ
   · subst hσ;rw [hu.at_] at hm;simp at hm;refine ⟨{ t with len:=t.len+n,own:=true },by simp [Gh.bZ],hm,hfit,fun h=>by simp at h;omega,fun hlt=>⟨b,o,c',ty,hb,hrole,hnew,by rw [hsz];exact hcap,fun j v hk=>?_⟩⟩;simp only [Gh.bZ,jb] at hk;show j<o+(t.len+n)*t.sz;split at hk
     · rename_i e;rw [hmul];omega
     · have:=hfree j v hk;rw [hmul];omega
   · rw [hu.other σ hσ] at hm;obtain ⟨t0,e1,e2,e3⟩:=hi.dI σ m hm;refine ⟨t0,by simp only [Gh.bZ];rw [if_neg hσ];exact e1,e2,e3.cap,e3.zero,fun hlt=>?_⟩;obtain ⟨b',o',cc,ty',f1,f2,f3,f4,f5⟩:=e3.spare hlt;have hbb:b'≠b:=by rintro rfl;rw [hrole] at f2;simp at f2;exact hσ f2.symm
     refine ⟨b',o',cc,ty',f1,f2,(hA.other b' hbb).trans f3,f4,fun j v hk=>f5 j v ?_⟩;simp only [Gh.bZ,jb] at hk
     rwa [if_neg (by rintro ⟨e,_⟩;exact hbb e)] at hk
 · intro σ t0 h;simp only [Gh.bZ] at h;split at h
   · rename_i e;subst e;simp at h;subst h;exact hu.at_
   · rename_i e;rw [hu.other σ e];exact hi.fc σ t0 h
end
end Go.Ab
