import Derived.Test.YtfhhognolpjikaaGreatAbFreeze
/-
  Forgetting what is no longer wanted; tokens named anew at the head of a loop.
-/
set_option linter.unusedVariables false
set_option linter.unusedSimpArgs false
set_option maxRecDepth 100000
set_option maxHeartbeats 8000000
namespace Go.Ab
section
variable {ns:Names} {G:Gh} {w:World}
mutual
theorem fJ {ρ:ca} {G':Gh} (hK:G.K.le G'.K) (hs:∀s b,G.sm s=some b→G'.sm s=some b):∀{x:AV} {v:Value},bE x=true→aC ρ G x v→aC ρ G' x v
 | .pv p,_,_,h=>by simp only [aC] at h ⊢;exact h.mono hK
 | .un,_,_,h=>by simpa only [aC] using h
 | .bB _,_,_,h=>by simp only [aC] at h ⊢;obtain ⟨b,l,e,r⟩:=h;exact ⟨b,l,e,r.mono hK⟩
 | .aX s o,_,_,h=>by simp only [aC] at h ⊢;obtain ⟨b,e,r⟩:=h;exact ⟨b,hs _ _ e,r⟩
 | .bq s _ n _,_,_,h=>by simp only [aC] at h ⊢;obtain ⟨b,c,e,r⟩:=h;exact ⟨b,c,hs _ _ e,r⟩
 | .dm _,_,_,h=>by simp only [aC] at h ⊢;obtain ⟨b,o,vs,e,f,r⟩:=h;exact ⟨b,o,vs,e,f.mono hK,dB.mono hK _ _ r⟩
 | .dk,_,_,h=>by simpa only [aC] using h
 | .cp s,_,_,h=>by simp only [aC] at h ⊢;obtain ⟨b,e,r⟩:=h;exact ⟨b,hs _ _ e,r⟩
 | .lH s _ _,_,_,h=>by simp only [aC] at h ⊢;obtain ⟨b,x,c,e,r⟩:=h;exact ⟨b,x,c,hs _ _ e,r⟩
 | .dj _,_,_,h=>by simp only [aC] at h
 | .fn g cap,_,hp,h=>by
   simp only [bE] at hp
   simp only [aC] at h ⊢
   obtain ⟨f,vs,e1,e2,r⟩:=h
   exact ⟨f,vs,e1,e2,lf hK hs hp r⟩
 | .agg cs,_,hp,h=>by
   simp only [bE] at hp
   simp only [aC] at h ⊢
   obtain ⟨vs,e,r⟩:=h
   exact ⟨vs,e,lf hK hs hp r⟩
 | .lI cs,_,hp,h=>by
   simp only [bE] at hp
   simp only [aC] at h ⊢
   obtain ⟨vs,e,r⟩:=h
   exact ⟨vs,e,lf hK hs hp r⟩
 | .own _ _,_,hp,_=>by simp [bE] at hp
 | .az _ _,_,hp,_=>by simp [bE] at hp
theorem lf {ρ:ca} {G':Gh} (hK:G.K.le G'.K) (hs:∀s b,G.sm s=some b→G'.sm s=some b):∀{xs:List AV} {vs:List Value},bE.dQ xs=true→aA ρ G xs vs→aA ρ G' xs vs
 | [],_,_,h=>by simpa only [aA] using h
 | x::xs,_,hp,h=>by
   simp only [bE.dQ,Bool.and_eq_true] at hp
   simp only [aA] at h ⊢
   obtain ⟨v,r,e,e1,e2⟩:=h
   exact ⟨v,r,e,fJ hK hs hp.1 e1,lf hK hs hp.2 e2⟩
end
mutual
theorem jJ:∀{x:AV},bO x=true→bE x=true
 | .pv _,_=>rfl
 | .aX ..,_=>rfl
 | .bq ..,_=>rfl
 | .dk,_=>rfl
 | .cp _,_=>rfl
 | .dj _,_=>rfl
 | .lH ..,h=>by simp [bO] at h
 | .fn _ cap,h=>by simp only [bO] at h;simp only [bE];exact l3 h
 | .un,h=>by simp [bO] at h
 | .bB _,h=>by simp [bE]
 | .own _ _,h=>by simp [bO] at h
 | .agg _,h=>by simp only [bO] at h;simp only [bE];exact l3 h
 | .lI _,h=>by simp [bO] at h
 | .az _ _,h=>by simp [bO] at h
 | .dm _,h=>by simp [bO] at h
theorem l3:∀{xs:List AV},bO.gD xs=true→bE.dQ xs=true
 | [],_=>rfl
 | x::xs,h=>by
   simp only [bO.gD,Bool.and_eq_true] at h
   simp only [bE.dQ,Bool.and_eq_true]
   exact ⟨jJ h.1,l3 h.2⟩
end
theorem CU {ρ:ca} {G':Gh} (hK:G.K.le G'.K) (hs:∀s b,G.sm s=some b→G'.sm s=some b) (ht:∀τ t,G.tk τ=some t→G'.tk τ=some t) {x:AV} {v:Value} (hf:gE x=true) (h:aC ρ G x v):aC ρ G' x v:=by
 cases x with
 | own l τ=>
   simp only [aC] at h ⊢
   obtain ⟨t,e1,e2,e3,e4⟩:=h
   exact ⟨t,ht _ _ e1,e2,e3.mono hK,fun hl=>⟨(e4 hl).1,J4 (e4 hl).2 fun ⟨b,o,e,r⟩=>⟨b,o,e,Row.mono hK _ _ _ _ r⟩⟩⟩
 | _=>exact fJ hK hs (by simpa [gE] using hf) h
theorem l4 {ρ:ca} {G':Gh} (hK:G.K.le G'.K) (hs:∀s b,G.sm s=some b→G'.sm s=some b) (ht:∀τ t,G.tk τ=some t→G'.tk τ=some t):∀{xs:List AV} {vs:List Value},fF xs=true→aA ρ G xs vs→aA ρ G' xs vs
 | [],_,_,h=>by simpa only [aA] using h
 | x::xs,_,hp,h=>by
   simp only [fF,Bool.and_eq_true] at hp
   simp only [aA] at h ⊢
   obtain ⟨v,r,e,e1,e2⟩:=h
   exact ⟨v,r,e,CU hK hs ht hp.1 e1,l4 hK hs ht hp.2 e2⟩
theorem qn {x:AV} (h:bf x=true):bE x=true∨∃l τ,x=.own l τ:=by
 cases x with
 | own l τ=>exact .inr ⟨l,τ,rfl⟩
 | fn g cap=>exact .inl (jJ (by simpa [bf] using h))
 | pv p=>exact .inl rfl
 | bB _=>exact .inl rfl
 | aX _ _=>exact .inl rfl
 | bq _ _ _ _=>exact .inl rfl
 | dk=>exact .inl rfl
 | cp _=>exact .inl rfl
 | dj _=>exact .inl rfl
 | _=>simp [bf] at h
theorem fc {live:List Nat} {env:List (Nat×AV)}:∀{l:List Nat} {t:Nat} {v:AV},look (bV live env l) t=some v→look env t=some v∧d9 live v=true∧t∈l
 | [],t,v,h=>by simp [bV,look] at h
 | s::l,t,v,h=>by
   simp only [bV] at h
   split at h
   · rename_i u hu
     split at h
     · rename_i hk
       simp only [look] at h
       split at h
       · rename_i e;subst e;cases h;exact ⟨hu,hk,by simp⟩
       · obtain ⟨h1,h2,h3⟩:=fc h;exact ⟨h1,h2,by simp [h3]⟩
     · obtain ⟨h1,h2,h3⟩:=fc h;exact ⟨h1,h2,by simp [h3]⟩
   · obtain ⟨h1,h2,h3⟩:=fc h;exact ⟨h1,h2,by simp [h3]⟩
theorem dF {mem:List (Nat×List AV)}:∀{l:List Nat} {t:Nat},look (bW mem l) t=if t∈l then look mem t else none
 | [],t=>by simp [bW,look]
 | s::l,t=>by
   simp only [bW]
   by_cases hst:s=t
   · subst hst
     cases hm:look mem s with
     | none=>simp only [hm];rw [dF,hm];simp
     | some v=>simp [look]
   · have hts:t≠s:=fun e=>hst e.symm
     cases hm:look mem s with
     | none=>simp only [hm];rw [dF];simp [hts]
     | some v=>simp only [look,hst,if_false];rw [dF];simp [hts]
def Gh.a9 (G:Gh) (live:List Nat):Gh:={ G with pm:=fun d=>if d∈live then G.pm d else none }
theorem vM {ρ:ca} {live:List Nat} {x:AV} {v:Value} (hk:d9 live x=true) (h:aC ρ G x v):aC ρ (G.a9 live) x v:=by
 have flat:bE x=true→aC ρ (G.a9 live) x v:=fun hf=>fJ (G:=G) (G':=G.a9 live) (bF.le_refl G.K) (fun _ _ h=>h) hf h
 cases x with
 | az d o=>
   simp only [aC] at h ⊢
   obtain ⟨b,e,r⟩:=h
   simp [d9] at hk
   exact ⟨b,by simp [Gh.a9,hk,e],r⟩
 | own l τ=>
   simp only [aC] at h ⊢
   exact h
 | agg cs=>
   simp only [aC] at h ⊢
   obtain ⟨vs,e,r⟩:=h
   exact ⟨vs,e,l4 (G:=G) (G':=G.a9 live) (bF.le_refl G.K) (fun _ _ h=>h) (fun _ _ h=>h) (by simpa [d9] using hk) r⟩
 | _=>exact flat (by simpa [d9] using hk)
theorem CV {ρ:ca} {live:List Nat} {x:AV} {v:Value} (hl:bf x=true) (h:aC ρ G x v):aC ρ (G.a9 live) x v:=by
 rcases qn hl with hf | ⟨l,τ,rfl⟩
 · exact fJ (G:=G) (G':=G.a9 live) (bF.le_refl G.K) (fun _ _ h=>h) hf h
 · simp only [aC] at h ⊢;exact h
theorem kz {ρ:ca} {live:List Nat}:∀{xs:List AV} {vs:List Value},xs.all bf=true→aA ρ G xs vs→aA ρ (G.a9 live) xs vs
 | [],_,_,h=>by simpa only [aA] using h
 | x::xs,_,hl,h=>by
   simp only [List.all_cons,Bool.and_eq_true] at hl
   simp only [aA] at h ⊢
   obtain ⟨v,r,e,e1,e2⟩:=h
   exact ⟨v,r,e,CV hl.1 e1,kz hl.2 e2⟩
theorem Inv.a9 {mem:List (Nat×List AV)} {sh:Sh} {ah:aL} (hi:Inv (num ns) G w mem sh ah) (live:List Nat):Inv (num ns) (G.a9 live) w (bW mem live) sh ah where
 known:=hi.known
 bo:=hi.bo
 fresh:=hi.fresh
 cS:=fun d cells hd=>by
   rw [dF] at hd
   split at hd
   · rename_i hl
     obtain ⟨b,e1,e2,e3⟩:=hi.cS d cells hd
     obtain ⟨hr,c,t,hh,hrel⟩:=e2
     exact ⟨b,by simp [Gh.a9,hl,e1],⟨hr,c,t,hh,kz e3 hrel⟩,e3⟩
   · simp at hd
 gL:=fun d b hd=>by
   simp only [Gh.a9] at hd
   split at hd
   · rename_i hl;rw [dF,if_pos hl];exact hi.gL d b hd
   · simp at hd
 dE:=fun s cells hs=>by
   obtain ⟨b,e1,e2,e3,e4⟩:=hi.dE s cells hs
   obtain ⟨hr,o,hh,hrel⟩:=e2
   exact ⟨b,e1,⟨hr,o,hh,hrel.to (fun _ _ _ h=>h) (fun _ e=>e) (fun _ r=>kz (kY e3) r)⟩,e3,e4⟩
 eY:=hi.eY
 dg:=fun τ n hn=>by
   obtain ⟨t,e1,e2,e3⟩:=hi.dg τ n hn
   exact ⟨t,e1,e2,e3.cap,e3.zero,e3.spare⟩
 eZ:=hi.eZ
theorem cm.a9 (live:List Nat):cm G w (G.a9 live) w:=
 { size:=Nat.le_refl _,os:=rfl,tape:=rfl,output:=rfl,K:=bF.le_refl G.K,sm:=fun _ _ h=>h,dO:=fun _ _ h=>⟨h,rfl⟩,ik:=fun _ τ _ h=>.inr ⟨τ,h⟩,gr:=fun _ _ _ _ _ h=>h }
theorem gU.restrict {n0 N:Nat} {st:St} {a:Act} (h:gU (num ns) n0 N G st a w) (live:List Nat):gU (num ns) n0 N (G.a9 live) (restrict live st) a w:=
 ⟨⟨h.env.size,fun t x hx=>by
   obtain ⟨h1,h2,_⟩:=fc hx
   obtain ⟨v,h3,h4⟩:=h.env.env t x h1
   exact ⟨v,h3,vM h2 h4⟩⟩,h.inv.a9 live,h.marks.yq (cm.a9 live) rfl⟩
end
end Go.Ab
