import Derived.Test.YtcjggpmnbcfedaaDoorAbFreeze
/-
  Forgetting what is no longer wanted; tokens named anew at the head of a loop.
-/
set_option linter.unusedVariables false
set_option linter.unusedSimpArgs false
set_option linter.unnecessarySimpa false
set_option maxRecDepth 100000
set_option maxHeartbeats 8000000
namespace Go.Ab
section
variable {ns:Names} {G:Gh} {w:World}
mutual
theorem dI {ρ:aX} {G':Gh} (hK:G.K.le G'.K) (hs:∀s b,G.sm s=some b→G'.sm s=some b):∀{x:AV} {v:Value},a_ x=true→ah ρ G x v→ah ρ G' x v
 | .pv p,_,_,h=>by simp only [ah] at h ⊢;exact h.mono hK
 | .un,_,_,h=>by simpa only [ah] using h
 | .cw _,_,_,h=>by simp only [ah] at h ⊢;obtain ⟨b,l,e,r⟩:=h;exact ⟨b,l,e,r.mono hK⟩
 | .a0 s o,_,_,h=>by simp only [ah] at h ⊢;obtain ⟨b,e,r⟩:=h;exact ⟨b,hs _ _ e,r⟩
 | .aU s _ n _,_,_,h=>by simp only [ah] at h ⊢;obtain ⟨b,c,e,r⟩:=h;exact ⟨b,c,hs _ _ e,r⟩
 | .cj _,_,_,h=>by simp only [ah] at h ⊢;obtain ⟨b,o,vs,e,f,r⟩:=h;exact ⟨b,o,vs,e,f.mono hK,bM.mono hK _ _ r⟩
 | .gm,_,_,h=>by simpa only [ah] using h
 | .dK s,_,_,h=>by simp only [ah] at h ⊢;obtain ⟨b,e,r⟩:=h;exact ⟨b,hs _ _ e,r⟩
 | .kB s _ _,_,_,h=>by simp only [ah] at h ⊢;obtain ⟨b,x,c,e,r⟩:=h;exact ⟨b,x,c,hs _ _ e,r⟩
 | .cz _,_,_,h=>by simp only [ah] at h
 | .fn g cap,_,hp,h=>by
   simp only [a_] at hp
   simp only [ah] at h ⊢
   obtain ⟨f,vs,e1,e2,r⟩:=h
   exact ⟨f,vs,e1,e2,iF hK hs hp r⟩
 | .agg cs,_,hp,h=>by
   simp only [a_] at hp
   simp only [ah] at h ⊢
   obtain ⟨vs,e,r⟩:=h
   exact ⟨vs,e,iF hK hs hp r⟩
 | .j1 cs,_,hp,h=>by
   simp only [a_] at hp
   simp only [ah] at h ⊢
   obtain ⟨vs,e,r⟩:=h
   exact ⟨vs,e,iF hK hs hp r⟩
 | .own _ _,_,hp,_=>by simp [a_] at hp
 | .bJ _ _,_,hp,_=>by simp [a_] at hp
 | .fk _ _,_,hp,_=>by simp [a_] at hp
theorem iF {ρ:aX} {G':Gh} (hK:G.K.le G'.K) (hs:∀s b,G.sm s=some b→G'.sm s=some b):∀{xs:List AV} {vs:List Value},a_.eN xs=true→ae ρ G xs vs→ae ρ G' xs vs
 | [],_,_,h=>by simpa only [ae] using h
 | x::xs,_,hp,h=>by
   simp only [a_.eN,Bool.and_eq_true] at hp
   simp only [ae] at h ⊢
   obtain ⟨v,r,e,e1,e2⟩:=h
   exact ⟨v,r,e,dI hK hs hp.1 e1,iF hK hs hp.2 e2⟩
end
mutual
theorem gF:∀{x:AV},a6 x=true→a_ x=true
 | .pv _,_=>rfl
 | .a0 ..,_=>rfl
 | .aU ..,_=>rfl
 | .gm,_=>rfl
 | .dK _,_=>rfl
 | .cz _,_=>rfl
 | .kB ..,h=>by simp [a6] at h
 | .fn _ cap,h=>by simp only [a6] at h;simp only [a_];exact iU h
 | .un,h=>by simp [a6] at h
 | .cw _,h=>by simp [a_]
 | .own _ _,h=>by simp [a6] at h
 | .agg _,h=>by simp only [a6] at h;simp only [a_];exact iU h
 | .j1 _,h=>by simp [a6] at h
 | .bJ _ _,h=>by simp [a6] at h
 | .fk _ _,h=>by simp [a6] at h
 | .cj _,h=>by simp [a6] at h
theorem iU:∀{xs:List AV},a6.gg xs=true→a_.eN xs=true
 | [],_=>rfl
 | x::xs,h=>by
   simp only [a6.gg,Bool.and_eq_true] at h
   simp only [a_.eN,Bool.and_eq_true]
   exact ⟨gF h.1,iU h.2⟩
end
theorem mX {ρ:aX} {G':Gh} (hK:G.K.le G'.K) (hs:∀s b,G.sm s=some b→G'.sm s=some b) (ht:∀τ t,G.tk τ=some t→G'.tk τ=some t) {x:AV} {v:Value} (hf:ft x=true) (h:ah ρ G x v):ah ρ G' x v:=by
 cases x with
 | own l τ=>
   simp only [ah] at h ⊢
   obtain ⟨t,e1,e2,e3,e4⟩:=h
   exact ⟨t,ht _ _ e1,e2,e3.mono hK,fun hl=>⟨(e4 hl).1,y8 (e4 hl).2 fun ⟨b,o,e,r⟩=>⟨b,o,e,Row.mono hK _ _ _ _ r⟩⟩⟩
 | _=>exact dI hK hs (by simpa [ft] using hf) h
theorem fc {ρ:aX} {G':Gh} (hK:G.K.le G'.K) (hs:∀s b,G.sm s=some b→G'.sm s=some b) (ht:∀τ t,G.tk τ=some t→G'.tk τ=some t):∀{xs:List AV} {vs:List Value},dC xs=true→ae ρ G xs vs→ae ρ G' xs vs
 | [],_,_,h=>by simpa only [ae] using h
 | x::xs,_,hp,h=>by
   simp only [dC,Bool.and_eq_true] at hp
   simp only [ae] at h ⊢
   obtain ⟨v,r,e,e1,e2⟩:=h
   exact ⟨v,r,e,mX hK hs ht hp.1 e1,fc hK hs ht hp.2 e2⟩
theorem iV {x:AV} (h:aA x=true):a_ x=true∨∃l τ,x=.own l τ:=by
 cases x with
 | own l τ=>exact .inr ⟨l,τ,rfl⟩
 | fn g cap=>exact .inl (gF (by simpa [aA] using h))
 | pv p=>exact .inl rfl
 | cw _=>exact .inl rfl
 | a0 _ _=>exact .inl rfl
 | aU _ _ _ _=>exact .inl rfl
 | gm=>exact .inl rfl
 | dK _=>exact .inl rfl
 | cz _=>exact .inl rfl
 | _=>simp [aA] at h
theorem bX {live:List Nat} {env:List (Nat×AV)}:∀{l:List Nat} {t:Nat} {v:AV},look (aO live env l) t=some v→look env t=some v∧cC live v=true∧t∈l
 | [],t,v,h=>by simp [aO,look] at h
 | s::l,t,v,h=>by
   simp only [aO] at h
   split at h
   · rename_i u hu
     split at h
     · rename_i hk
       simp only [look] at h
       split at h
       · rename_i e;subst e;cases h;exact ⟨hu,hk,by simp⟩
       · obtain ⟨h1,h2,h3⟩:=bX h;exact ⟨h1,h2,by simp [h3]⟩
     · obtain ⟨h1,h2,h3⟩:=bX h;exact ⟨h1,h2,by simp [h3]⟩
   · obtain ⟨h1,h2,h3⟩:=bX h;exact ⟨h1,h2,by simp [h3]⟩
theorem bY {mem:List (Nat×List AV)}:∀{l:List Nat} {t:Nat},look (aT mem l) t=if t∈l then look mem t else none
 | [],t=>by simp [aT,look]
 | s::l,t=>by
   simp only [aT]
   by_cases nF:s=t
   · subst nF
     cases hm:look mem s with
     | none=>simp only [hm];rw [bY,hm];simp
     | some v=>simp [look]
   · have hts:t≠s:=fun e=>nF e.symm
     cases hm:look mem s with
     | none=>simp only [hm];rw [bY];simp [hts]
     | some v=>simp only [look,nF,if_false];rw [bY];simp [hts]
def Gh.aw (G:Gh) (live:List Nat):Gh:={ G with pm:=fun d=>if d∈live then G.pm d else none }
theorem pB {ρ:aX} {live:List Nat} {x:AV} {v:Value} (hk:cC live x=true) (h:ah ρ G x v):ah ρ (G.aw live) x v:=by
 have flat:a_ x=true→ah ρ (G.aw live) x v:=fun hf=>dI (G:=G) (G':=G.aw live) (aF.le_refl G.K) (fun _ _ h=>h) hf h
 cases x with
 | bJ d o=>
   simp only [ah] at h ⊢
   obtain ⟨b,e,r⟩:=h
   simp [cC] at hk
   exact ⟨b,by simp [Gh.aw,hk,e],r⟩
 | fk d o=>
   simp only [ah] at h ⊢
   obtain ⟨b,e,r⟩:=h
   simp [cC] at hk
   exact ⟨b,by simp [Gh.aw,hk,e],r⟩
 | own l τ=>
   simp only [ah] at h ⊢
   exact h
 | agg cs=>
   simp only [ah] at h ⊢
   obtain ⟨vs,e,r⟩:=h
   exact ⟨vs,e,fc (G:=G) (G':=G.aw live) (aF.le_refl G.K) (fun _ _ h=>h) (fun _ _ h=>h) (by simpa [cC] using hk) r⟩
 | _=>exact flat (by simpa [cC] using hk)
theorem ur {ρ:aX} {live:List Nat} {x:AV} {v:Value} (hl:aA x=true) (h:ah ρ G x v):ah ρ (G.aw live) x v:=by
 rcases iV hl with hf | ⟨l,τ,rfl⟩
 · exact dI (G:=G) (G':=G.aw live) (aF.le_refl G.K) (fun _ _ h=>h) hf h
 · simp only [ah] at h ⊢;exact h
theorem il {ρ:aX} {live:List Nat}:∀{xs:List AV} {vs:List Value},xs.all aA=true→ae ρ G xs vs→ae ρ (G.aw live) xs vs
 | [],_,_,h=>by simpa only [ae] using h
 | x::xs,_,hl,h=>by
   simp only [List.all_cons,Bool.and_eq_true] at hl
   simp only [ae] at h ⊢
   obtain ⟨v,r,e,e1,e2⟩:=h
   exact ⟨v,r,e,ur hl.1 e1,il hl.2 e2⟩
theorem Inv.aw {mem:List (Nat×List AV)} {sh:Sh} {aa:al} (hi:Inv (num ns) G w mem sh aa) (live:List Nat):Inv (num ns) (G.aw live) w (aT mem live) sh aa where
 known:=hi.known
 aC:=hi.aC
 fresh:=hi.fresh
 bp:=fun d cells hd=>by
   rw [bY] at hd
   split at hd
   · rename_i hl
     obtain ⟨b,e1,e2,e3⟩:=hi.bp d cells hd
     obtain ⟨hr,c,t,hh,hrel⟩:=e2
     exact ⟨b,by simp [Gh.aw,hl,e1],⟨hr,c,t,hh,il e3 hrel⟩,e3⟩
   · simp at hd
 dX:=fun d b hd=>by
   simp only [Gh.aw] at hd
   split at hd
   · rename_i hl;rw [bY,if_pos hl];exact hi.dX d b hd
   · simp at hd
 bD:=fun s cells hs=>by
   obtain ⟨b,e1,e2,e3,e4⟩:=hi.bD s cells hs
   obtain ⟨hr,o,hh,hrel⟩:=e2
   exact ⟨b,e1,⟨hr,o,hh,hrel.to (fun _ _ _ h=>h) (fun _ e=>e) (fun _ r=>il (dB e3) r)⟩,e3,e4⟩
 cN:=hi.cN
 bE:=fun τ n hn=>by
   obtain ⟨t,e1,e2,e3⟩:=hi.bE τ n hn
   exact ⟨t,e1,e2,e3.cap,e3.zero,e3.spare⟩
 cY:=hi.cY
 hP:=hi.hP
theorem aN.aw (live:List Nat):aN G w (G.aw live) w:=
 { size:=Nat.le_refl _,os:=rfl,tape:=rfl,output:=rfl,K:=aF.le_refl G.K,sm:=fun _ _ h=>h,b_:=fun _ _ h=>⟨h,rfl⟩,ew:=fun _ τ _ h=>.inr ⟨τ,h⟩,dP:=fun _ _ _ _ _ h=>h }
theorem dt.restrict {n0 N:Nat} {st:St} {a:Act} (h:dt (num ns) n0 N G st a w) (live:List Nat):dt (num ns) n0 N (G.aw live) (restrict live st) a w:=
 ⟨⟨h.env.size,fun t x hx=>by
   obtain ⟨h1,h2,_⟩:=bX hx
   obtain ⟨v,h3,h4⟩:=h.env.env t x h1
   exact ⟨v,h3,pB h2 h4⟩⟩,h.inv.aw live,h.marks.mr (aN.aw live) rfl⟩
end
end Go.Ab
