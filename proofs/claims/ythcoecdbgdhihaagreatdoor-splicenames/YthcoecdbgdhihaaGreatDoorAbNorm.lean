import Derived.Test.YthcoecdbgdhihaaGreatDoorAbFreeze
/-
  Forgetting what is no longer wanted; tokens named anew at the head of a loop.
-/
set_option linter.unusedVariables false
set_option linter.unusedSimpArgs false
set_option linter.unnecessarySimpa false
set_option maxRecDepth 100000
set_option maxHeartbeats 8000000
namespace Go.Ab
section
variable {ns:Names} {G:Gh} {w:World}
mutual
theorem iU {ρ:cy} {G':Gh} (hK:G.K.le G'.K) (hs:∀s b,G.sm s=some b→G'.sm s=some b):∀{x:AV} {v:Value},cz x=true→aC ρ G x v→aC ρ G' x v
 | .pv p,_,_,h=>by simp only [aC] at h ⊢;exact h.mono hK
 | .un,_,_,h=>by simpa only [aC] using h
 | .bM _,_,_,h=>by simp only [aC] at h ⊢;obtain ⟨b,l,e,r⟩:=h;exact ⟨b,l,e,r.mono hK⟩
 | .br s o,_,_,h=>by simp only [aC] at h ⊢;obtain ⟨b,e,r⟩:=h;exact ⟨b,hs _ _ e,r⟩
 | .bE s _ n _,_,_,h=>by simp only [aC] at h ⊢;obtain ⟨b,c,e,r⟩:=h;exact ⟨b,c,hs _ _ e,r⟩
 | .gf _,_,_,h=>by simp only [aC] at h ⊢;obtain ⟨b,o,vs,e,f,r⟩:=h;exact ⟨b,o,vs,e,f.mono hK,dV.mono hK _ _ r⟩
 | .jN,_,_,h=>by simpa only [aC] using h
 | .jO s,_,_,h=>by simp only [aC] at h ⊢;obtain ⟨b,e,r⟩:=h;exact ⟨b,hs _ _ e,r⟩
 | .oA s _ _,_,_,h=>by simp only [aC] at h ⊢;obtain ⟨b,x,c,e,r⟩:=h;exact ⟨b,x,c,hs _ _ e,r⟩
 | .fF _,_,_,h=>by simp only [aC] at h
 | .fn g cap,_,hp,h=>by
   simp only [cz] at hp;simp only [aC] at h ⊢;obtain ⟨f,vs,e1,e2,r⟩:=h;exact ⟨f,vs,e1,e2,l4 hK hs hp r⟩
 | .agg cs,_,hp,h=>by
   simp only [cz] at hp;simp only [aC] at h ⊢;obtain ⟨vs,e,r⟩:=h;exact ⟨vs,e,l4 hK hs hp r⟩
 | .pg cs,_,hp,h=>by
   simp only [cz] at hp;simp only [aC] at h ⊢;obtain ⟨vs,e,r⟩:=h;exact ⟨vs,e,l4 hK hs hp r⟩
 | .own _ _,_,hp,_=>by simp [cz] at hp
 | .aG _ _,_,hp,_=>by simp [cz] at hp
 | .jP _ _,_,hp,_=>by simp [cz] at hp
theorem l4 {ρ:cy} {G':Gh} (hK:G.K.le G'.K) (hs:∀s b,G.sm s=some b→G'.sm s=some b):∀{xs:List AV} {vs:List Value},cz.gB xs=true→aB ρ G xs vs→aB ρ G' xs vs
 | [],_,_,h=>by simpa only [aB] using h
 | x::xs,_,hp,h=>by
   simp only [cz.gB,Bool.and_eq_true] at hp;simp only [aB] at h ⊢;obtain ⟨v,r,e,e1,e2⟩:=h;exact ⟨v,r,e,iU hK hs hp.1 e1,l4 hK hs hp.2 e2⟩
end
mutual
theorem ko:∀{x:AV},cC x=true→cz x=true
 | .pv _,_=>rfl
 | .br ..,_=>rfl
 | .bE ..,_=>rfl
 | .jN,_=>rfl
 | .jO _,_=>rfl
 | .fF _,_=>rfl
 | .oA ..,h=>by simp [cC] at h
 | .fn _ cap,h=>by simp only [cC] at h;simp only [cz];exact mT h
 | .un,h=>by simp [cC] at h
 | .bM _,h=>by simp [cz]
 | .own _ _,h=>by simp [cC] at h
 | .agg _,h=>by simp only [cC] at h;simp only [cz];exact mT h
 | .pg _,h=>by simp [cC] at h
 | .aG _ _,h=>by simp [cC] at h
 | .jP _ _,h=>by simp [cC] at h
 | .gf _,h=>by simp [cC] at h
theorem mT:∀{xs:List AV},cC.jQ xs=true→cz.gB xs=true
 | [],_=>rfl
 | x::xs,h=>by
   simp only [cC.jQ,Bool.and_eq_true] at h;simp only [cz.gB,Bool.and_eq_true];exact ⟨ko h.1,mT h.2⟩
end
theorem tZ {ρ:cy} {G':Gh} (hK:G.K.le G'.K) (hs:∀s b,G.sm s=some b→G'.sm s=some b) (ht:∀τ t,G.tk τ=some t→G'.tk τ=some t) {x:AV} {v:Value} (hf:jr x=true) (h:aC ρ G x v):aC ρ G' x v:=by
 cases x with
 | own l τ=>
   simp only [aC] at h ⊢;obtain ⟨t,e1,e2,e3,e4⟩:=h;exact ⟨t,ht _ _ e1,e2,e3.mono hK,fun hl=>⟨(e4 hl).1,JH (e4 hl).2 fun ⟨b,o,e,r⟩=>⟨b,o,e,Row.mono hK _ _ _ _ r⟩⟩⟩
 | _=>exact iU hK hs (by simpa [jr] using hf) h
theorem jf {ρ:cy} {G':Gh} (hK:G.K.le G'.K) (hs:∀s b,G.sm s=some b→G'.sm s=some b) (ht:∀τ t,G.tk τ=some t→G'.tk τ=some t):∀{xs:List AV} {vs:List Value},fR xs=true→aB ρ G xs vs→aB ρ G' xs vs
 | [],_,_,h=>by simpa only [aB] using h
 | x::xs,_,hp,h=>by
   simp only [fR,Bool.and_eq_true] at hp;simp only [aB] at h ⊢;obtain ⟨v,r,e,e1,e2⟩:=h;exact ⟨v,r,e,tZ hK hs ht hp.1 e1,jf hK hs ht hp.2 e2⟩
theorem mU {x:AV} (h:bp x=true):cz x=true∨∃l τ,x=.own l τ:=by
 cases x with
 | own l τ=>exact .inr ⟨l,τ,rfl⟩
 | fn g cap=>exact .inl (ko (by simpa [bp] using h))
 | pv p=>exact .inl rfl
 | bM _=>exact .inl rfl
 | br _ _=>exact .inl rfl
 | bE _ _ _ _=>exact .inl rfl
 | jN=>exact .inl rfl
 | jO _=>exact .inl rfl
 | fF _=>exact .inl rfl
 | _=>simp [bp] at h
theorem dX {live:List Nat} {env:List (Nat×AV)}:∀{l:List Nat} {t:Nat} {v:AV},look (cb live env l) t=some v→look env t=some v∧en live v=true∧t∈l
 | [],t,v,h=>by simp [cb,look] at h
 | s::l,t,v,h=>by
   simp only [cb] at h;split at h
   · rename_i u hu;split at h
     · rename_i hk;simp only [look] at h;split at h
       · rename_i e;subst e;cases h;exact ⟨hu,hk,by simp⟩
       · obtain ⟨h1,h2,h3⟩:=dX h;exact ⟨h1,h2,by simp [h3]⟩
     · obtain ⟨h1,h2,h3⟩:=dX h;exact ⟨h1,h2,by simp [h3]⟩
   · obtain ⟨h1,h2,h3⟩:=dX h;exact ⟨h1,h2,by simp [h3]⟩
theorem dY {mem:List (Nat×List AV)}:∀{l:List Nat} {t:Nat},look (ck mem l) t=if t∈l then look mem t else none
 | [],t=>by simp [ck,look]
 | s::l,t=>by
   simp only [ck];by_cases tV:s=t
   · subst tV;cases hm:look mem s with
     | none=>simp only [hm];rw [dY,hm];simp
     | some v=>simp [look]
   · have hts:t≠s:=fun e=>tV e.symm
     cases hm:look mem s with
     | none=>simp only [hm];rw [dY];simp [hts]
     | some v=>simp only [look,tV,if_false];rw [dY];simp [hts]
def Gh.bq (G:Gh) (live:List Nat):Gh:={ G with pm:=fun d=>if d∈live then G.pm d else none }
theorem xu {ρ:cy} {live:List Nat} {x:AV} {v:Value} (hk:en live x=true) (h:aC ρ G x v):aC ρ (G.bq live) x v:=by
 have flat:cz x=true→aC ρ (G.bq live) x v:=fun hf=>iU (G:=G) (G':=G.bq live) (bJ.le_refl G.K) (fun _ _ h=>h) hf h
 cases x with
 | aG d o=>
   simp only [aC] at h ⊢;obtain ⟨b,e,r⟩:=h;simp [en] at hk;exact ⟨b,by simp [Gh.bq,hk,e],r⟩
 | jP d o=>
   simp only [aC] at h ⊢;obtain ⟨b,e,r⟩:=h;simp [en] at hk;exact ⟨b,by simp [Gh.bq,hk,e],r⟩
 | own l τ=>
   simp only [aC] at h ⊢;exact h
 | agg cs=>
   simp only [aC] at h ⊢;obtain ⟨vs,e,r⟩:=h;exact ⟨vs,e,jf (G:=G) (G':=G.bq live) (bJ.le_refl G.K) (fun _ _ h=>h) (fun _ _ h=>h) (by simpa [en] using hk) r⟩
 | _=>exact flat (by simpa [en] using hk)
theorem DI {ρ:cy} {live:List Nat} {x:AV} {v:Value} (hl:bp x=true) (h:aC ρ G x v):aC ρ (G.bq live) x v:=by
 rcases mU hl with hf | ⟨l,τ,rfl⟩
 · exact iU (G:=G) (G':=G.bq live) (bJ.le_refl G.K) (fun _ _ h=>h) hf h
 · simp only [aC] at h ⊢;exact h
theorem lz {ρ:cy} {live:List Nat}:∀{xs:List AV} {vs:List Value},xs.all bp=true→aB ρ G xs vs→aB ρ (G.bq live) xs vs
 | [],_,_,h=>by simpa only [aB] using h
 | x::xs,_,hl,h=>by
   simp only [List.all_cons,Bool.and_eq_true] at hl;simp only [aB] at h ⊢;obtain ⟨v,r,e,e1,e2⟩:=h;exact ⟨v,r,e,DI hl.1 e1,lz hl.2 e2⟩
theorem Inv.bq {mem:List (Nat×List AV)} {sh:Sh} {ah:aN} (hi:Inv (num ns) G w mem sh ah) (live:List Nat):Inv (num ns) (G.bq live) w (ck mem live) sh ah where
 known:=hi.known
 bz:=hi.bz
 fresh:=hi.fresh
 dq:=fun d cells hd=>by
   rw [dY] at hd;split at hd
   · rename_i hl;obtain ⟨b,e1,e2,e3⟩:=hi.dq d cells hd;obtain ⟨hr,c,t,hh,hrel⟩:=e2;exact ⟨b,by simp [Gh.bq,hl,e1],⟨hr,c,t,hh,lz e3 hrel⟩,e3⟩
   · simp at hd
 gN:=fun d b hd=>by
   simp only [Gh.bq] at hd;split at hd
   · rename_i hl;rw [dY,if_pos hl];exact hi.gN d b hd
   · simp at hd
 dP:=fun s cells hs=>by
   obtain ⟨b,e1,e2,e3,e4⟩:=hi.dP s cells hs;obtain ⟨hr,o,hh,hrel⟩:=e2;exact ⟨b,e1,⟨hr,o,hh,hrel.to (fun _ _ _ h=>h) (fun _ e=>e) (fun _ r=>lz (iP e3) r)⟩,e3,e4⟩
 eJ:=hi.eJ
 dI:=fun τ n hn=>by
   obtain ⟨t,e1,e2,e3⟩:=hi.dI τ n hn;exact ⟨t,e1,e2,e3.cap,e3.zero,e3.spare⟩
 fc:=hi.fc
 jS:=hi.jS
theorem cq.bq (live:List Nat):cq G w (G.bq live) w:=
 { size:=Nat.le_refl _,os:=rfl,tape:=rfl,output:=rfl,K:=bJ.le_refl G.K,sm:=fun _ _ h=>h,eE:=fun _ _ h=>⟨h,rfl⟩,iG:=fun _ τ _ h=>.inr ⟨τ,h⟩,gO:=fun _ _ _ _ _ h=>h }
theorem gT.restrict {n0 N:Nat} {st:St} {a:Act} (h:gT (num ns) n0 N G st a w) (live:List Nat):gT (num ns) n0 N (G.bq live) (restrict live st) a w:=
 ⟨⟨h.env.size,fun t x hx=>by
   obtain ⟨h1,h2,_⟩:=dX hx;obtain ⟨v,h3,h4⟩:=h.env.env t x h1;exact ⟨v,h3,xu h2 h4⟩⟩,h.inv.bq live,h.marks.pn (cq.bq live) rfl⟩
end
end Go.Ab
