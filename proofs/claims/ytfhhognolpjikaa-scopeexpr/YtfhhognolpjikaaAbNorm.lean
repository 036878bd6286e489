import Derived.Test.YtfhhognolpjikaaAbFreeze
/-
  Forgetting what is no longer wanted; tokens named anew at the head of a loop.
-/
set_option linter.unusedVariables false
set_option linter.unusedSimpArgs false
set_option maxRecDepth 100000
set_option maxHeartbeats 8000000
namespace Go.Ab
section
variable {ns:Names} {G:Gh} {w:World}
mutual
theorem eO {ρ:bI} {G':Gh} (hK:G.K.le G'.K) (hs:∀s b,G.sm s=some b→G'.sm s=some b):∀{x:AV} {v:Value},bg x=true→aq ρ G x v→aq ρ G' x v
 | .pv p,_,_,h=>by simp only [aq] at h ⊢;exact h.mono hK
 | .un,_,_,h=>by simpa only [aq] using h
 | .bR _,_,_,h=>by simp only [aq] at h ⊢;obtain ⟨b,l,e,r⟩:=h;exact ⟨b,l,e,r.mono hK⟩
 | .ba s o,_,_,h=>by simp only [aq] at h ⊢;obtain ⟨b,e,r⟩:=h;exact ⟨b,hs _ _ e,r⟩
 | .bd s _ n _,_,_,h=>by simp only [aq] at h ⊢;obtain ⟨b,c,e,r⟩:=h;exact ⟨b,c,hs _ _ e,r⟩
 | .cQ _,_,_,h=>by simp only [aq] at h ⊢;obtain ⟨b,o,vs,e,f,r⟩:=h;exact ⟨b,o,vs,e,f.mono hK,cL.mono hK _ _ r⟩
 | .cM,_,_,h=>by simpa only [aq] using h
 | .ck s,_,_,h=>by simp only [aq] at h ⊢;obtain ⟨b,e,r⟩:=h;exact ⟨b,hs _ _ e,r⟩
 | .jS s _ _,_,_,h=>by simp only [aq] at h ⊢;obtain ⟨b,x,c,e,r⟩:=h;exact ⟨b,x,c,hs _ _ e,r⟩
 | .da _,_,_,h=>by simp only [aq] at h
 | .fn g cap,_,hp,h=>by
   simp only [bg] at hp
   simp only [aq] at h ⊢
   obtain ⟨f,vs,e1,e2,r⟩:=h
   exact ⟨f,vs,e1,e2,ju hK hs hp r⟩
 | .agg cs,_,hp,h=>by
   simp only [bg] at hp
   simp only [aq] at h ⊢
   obtain ⟨vs,e,r⟩:=h
   exact ⟨vs,e,ju hK hs hp r⟩
 | .jH cs,_,hp,h=>by
   simp only [bg] at hp
   simp only [aq] at h ⊢
   obtain ⟨vs,e,r⟩:=h
   exact ⟨vs,e,ju hK hs hp r⟩
 | .own _ _,_,hp,_=>by simp [bg] at hp
 | .aT _ _,_,hp,_=>by simp [bg] at hp
theorem ju {ρ:bI} {G':Gh} (hK:G.K.le G'.K) (hs:∀s b,G.sm s=some b→G'.sm s=some b):∀{xs:List AV} {vs:List Value},bg.dr xs=true→al ρ G xs vs→al ρ G' xs vs
 | [],_,_,h=>by simpa only [al] using h
 | x::xs,_,hp,h=>by
   simp only [bg.dr,Bool.and_eq_true] at hp
   simp only [al] at h ⊢
   obtain ⟨v,r,e,e1,e2⟩:=h
   exact ⟨v,r,e,eO hK hs hp.1 e1,ju hK hs hp.2 e2⟩
end
mutual
theorem iC:∀{x:AV},br x=true→bg x=true
 | .pv _,_=>rfl
 | .ba ..,_=>rfl
 | .bd ..,_=>rfl
 | .cM,_=>rfl
 | .ck _,_=>rfl
 | .da _,_=>rfl
 | .jS ..,h=>by simp [br] at h
 | .fn _ cap,h=>by simp only [br] at h;simp only [bg];exact j0 h
 | .un,h=>by simp [br] at h
 | .bR _,h=>by simp [bg]
 | .own _ _,h=>by simp [br] at h
 | .agg _,h=>by simp only [br] at h;simp only [bg];exact j0 h
 | .jH _,h=>by simp [br] at h
 | .aT _ _,h=>by simp [br] at h
 | .cQ _,h=>by simp [br] at h
theorem j0:∀{xs:List AV},br.fb xs=true→bg.dr xs=true
 | [],_=>rfl
 | x::xs,h=>by
   simp only [br.fb,Bool.and_eq_true] at h
   simp only [bg.dr,Bool.and_eq_true]
   exact ⟨iC h.1,j0 h.2⟩
end
theorem xS {ρ:bI} {G':Gh} (hK:G.K.le G'.K) (hs:∀s b,G.sm s=some b→G'.sm s=some b) (ht:∀τ t,G.tk τ=some t→G'.tk τ=some t) {x:AV} {v:Value} (hf:fc x=true) (h:aq ρ G x v):aq ρ G' x v:=by
 cases x with
 | own l τ=>
   simp only [aq] at h ⊢
   obtain ⟨t,e1,e2,e3,e4⟩:=h
   exact ⟨t,ht _ _ e1,e2,e3.mono hK,fun hl=>⟨(e4 hl).1,Dg (e4 hl).2 fun ⟨b,o,e,r⟩=>⟨b,o,e,Row.mono hK _ _ _ _ r⟩⟩⟩
 | _=>exact eO hK hs (by simpa [fc] using hf) h
theorem j6 {ρ:bI} {G':Gh} (hK:G.K.le G'.K) (hs:∀s b,G.sm s=some b→G'.sm s=some b) (ht:∀τ t,G.tk τ=some t→G'.tk τ=some t):∀{xs:List AV} {vs:List Value},eJ xs=true→al ρ G xs vs→al ρ G' xs vs
 | [],_,_,h=>by simpa only [al] using h
 | x::xs,_,hp,h=>by
   simp only [eJ,Bool.and_eq_true] at hp
   simp only [al] at h ⊢
   obtain ⟨v,r,e,e1,e2⟩:=h
   exact ⟨v,r,e,xS hK hs ht hp.1 e1,j6 hK hs ht hp.2 e2⟩
theorem mX {x:AV} (h:aP x=true):bg x=true∨∃l τ,x=.own l τ:=by
 cases x with
 | own l τ=>exact .inr ⟨l,τ,rfl⟩
 | fn g cap=>exact .inl (iC (by simpa [aP] using h))
 | pv p=>exact .inl rfl
 | bR _=>exact .inl rfl
 | ba _ _=>exact .inl rfl
 | bd _ _ _ _=>exact .inl rfl
 | cM=>exact .inl rfl
 | ck _=>exact .inl rfl
 | da _=>exact .inl rfl
 | _=>simp [aP] at h
theorem ep {live:List Nat} {env:List (Nat×AV)}:∀{l:List Nat} {t:Nat} {v:AV},look (bB live env l) t=some v→look env t=some v∧dI live v=true∧t∈l
 | [],t,v,h=>by simp [bB,look] at h
 | s::l,t,v,h=>by
   simp only [bB] at h
   split at h
   · rename_i u hu
     split at h
     · rename_i hk
       simp only [look] at h
       split at h
       · rename_i e;subst e;cases h;exact ⟨hu,hk,by simp⟩
       · obtain ⟨h1,h2,h3⟩:=ep h;exact ⟨h1,h2,by simp [h3]⟩
     · obtain ⟨h1,h2,h3⟩:=ep h;exact ⟨h1,h2,by simp [h3]⟩
   · obtain ⟨h1,h2,h3⟩:=ep h;exact ⟨h1,h2,by simp [h3]⟩
theorem dd {mem:List (Nat×List AV)}:∀{l:List Nat} {t:Nat},look (bC mem l) t=if t∈l then look mem t else none
 | [],t=>by simp [bC,look]
 | s::l,t=>by
   simp only [bC]
   by_cases hst:s=t
   · subst hst
     cases hm:look mem s with
     | none=>simp only [hm];rw [dd,hm];simp
     | some v=>simp [look]
   · have hts:t≠s:=fun e=>hst e.symm
     cases hm:look mem s with
     | none=>simp only [hm];rw [dd];simp [hts]
     | some v=>simp only [look,hst,if_false];rw [dd];simp [hts]
def Gh.aM (G:Gh) (live:List Nat):Gh:={ G with pm:=fun d=>if d∈live then G.pm d else none }
theorem qX {ρ:bI} {live:List Nat} {x:AV} {v:Value} (hk:dI live x=true) (h:aq ρ G x v):aq ρ (G.aM live) x v:=by
 have flat:bg x=true→aq ρ (G.aM live) x v:=fun hf=>eO (G:=G) (G':=G.aM live) (bf.le_refl G.K) (fun _ _ h=>h) hf h
 cases x with
 | aT d o=>
   simp only [aq] at h ⊢
   obtain ⟨b,e,r⟩:=h
   simp [dI] at hk
   exact ⟨b,by simp [Gh.aM,hk,e],r⟩
 | own l τ=>
   simp only [aq] at h ⊢
   exact h
 | agg cs=>
   simp only [aq] at h ⊢
   obtain ⟨vs,e,r⟩:=h
   exact ⟨vs,e,j6 (G:=G) (G':=G.aM live) (bf.le_refl G.K) (fun _ _ h=>h) (fun _ _ h=>h) (by simpa [dI] using hk) r⟩
 | _=>exact flat (by simpa [dI] using hk)
theorem xT {ρ:bI} {live:List Nat} {x:AV} {v:Value} (hl:aP x=true) (h:aq ρ G x v):aq ρ (G.aM live) x v:=by
 rcases mX hl with hf | ⟨l,τ,rfl⟩
 · exact eO (G:=G) (G':=G.aM live) (bf.le_refl G.K) (fun _ _ h=>h) hf h
 · simp only [aq] at h ⊢;exact h
theorem i_ {ρ:bI} {live:List Nat}:∀{xs:List AV} {vs:List Value},xs.all aP=true→al ρ G xs vs→al ρ (G.aM live) xs vs
 | [],_,_,h=>by simpa only [al] using h
 | x::xs,_,hl,h=>by
   simp only [List.all_cons,Bool.and_eq_true] at hl
   simp only [al] at h ⊢
   obtain ⟨v,r,e,e1,e2⟩:=h
   exact ⟨v,r,e,xT hl.1 e1,i_ hl.2 e2⟩
theorem Inv.aM {mem:List (Nat×List AV)} {sh:Sh} {aa:au} (hi:Inv (num ns) G w mem sh aa) (live:List Nat):Inv (num ns) (G.aM live) w (bC mem live) sh aa where
 known:=hi.known
 aY:=hi.aY
 fresh:=hi.fresh
 cm:=fun d cells hd=>by
   rw [dd] at hd
   split at hd
   · rename_i hl
     obtain ⟨b,e1,e2,e3⟩:=hi.cm d cells hd
     obtain ⟨hr,c,t,hh,hrel⟩:=e2
     exact ⟨b,by simp [Gh.aM,hl,e1],⟨hr,c,t,hh,i_ e3 hrel⟩,e3⟩
   · simp at hd
 fp:=fun d b hd=>by
   simp only [Gh.aM] at hd
   split at hd
   · rename_i hl;rw [dd,if_pos hl];exact hi.fp d b hd
   · simp at hd
 cY:=fun s cells hs=>by
   obtain ⟨b,e1,e2,e3,e4⟩:=hi.cY s cells hs
   obtain ⟨hr,o,hh,hrel⟩:=e2
   exact ⟨b,e1,⟨hr,o,hh,hrel.to (fun _ _ _ h=>h) (fun _ e=>e) (fun _ r=>i_ (jo e3) r)⟩,e3,e4⟩
 ek:=hi.ek
 ct:=fun τ n hn=>by
   obtain ⟨t,e1,e2,e3⟩:=hi.ct τ n hn
   exact ⟨t,e1,e2,e3.cap,e3.zero,e3.spare⟩
 d_:=hi.d_
theorem bJ.aM (live:List Nat):bJ G w (G.aM live) w:=
 { size:=Nat.le_refl _,os:=rfl,tape:=rfl,output:=rfl,K:=bf.le_refl G.K,sm:=fun _ _ h=>h,dp:=fun _ _ h=>⟨h,rfl⟩,ga:=fun _ τ _ h=>.inr ⟨τ,h⟩,e_:=fun _ _ _ _ _ h=>h }
theorem fG.restrict {n0 N:Nat} {st:St} {a:Act} (h:fG (num ns) n0 N G st a w) (live:List Nat):fG (num ns) n0 N (G.aM live) (restrict live st) a w:=
 ⟨⟨h.env.size,fun t x hx=>by
   obtain ⟨h1,h2,_⟩:=ep hx
   obtain ⟨v,h3,h4⟩:=h.env.env t x h1
   exact ⟨v,h3,qX h2 h4⟩⟩,h.inv.aM live,h.marks.tl (bJ.aM live) rfl⟩
end
end Go.Ab
