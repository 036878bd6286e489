import Derived.Test.YtcjggpmnbcfedaaGreatDoorAbFreeze
/-
  Forgetting what is no longer wanted; tokens named anew at the head of a loop.
-/
set_option linter.unusedVariables false
set_option linter.unusedSimpArgs false
set_option linter.unnecessarySimpa false
set_option maxRecDepth 100000
set_option maxHeartbeats 8000000
namespace Go.Ab
section
variable {ns:Names} {G:Gh} {w:World}
mutual
theorem gQ {ρ:cr} {G':Gh} (hK:G.K.le G'.K) (hs:∀s b,G.sm s=some b→G'.sm s=some b):∀{x:AV} {v:Value},bP x=true→au ρ G x v→au ρ G' x v
 | .pv p,_,_,h=>by simp only [au] at h ⊢;exact h.mono hK
 | .un,_,_,h=>by simpa only [au] using h
 | .bJ _,_,_,h=>by simp only [au] at h ⊢;obtain ⟨b,l,e,r⟩:=h;exact ⟨b,l,e,r.mono hK⟩
 | .aZ s o,_,_,h=>by simp only [au] at h ⊢;obtain ⟨b,e,r⟩:=h;exact ⟨b,hs _ _ e,r⟩
 | .bz s _ n _,_,_,h=>by simp only [au] at h ⊢;obtain ⟨b,c,e,r⟩:=h;exact ⟨b,c,hs _ _ e,r⟩
 | .dG _,_,_,h=>by simp only [au] at h ⊢;obtain ⟨b,o,vs,e,f,r⟩:=h;exact ⟨b,o,vs,e,f.mono hK,dP.mono hK _ _ r⟩
 | .dS,_,_,h=>by simpa only [au] using h
 | .dj s,_,_,h=>by simp only [au] at h ⊢;obtain ⟨b,e,r⟩:=h;exact ⟨b,hs _ _ e,r⟩
 | .nv s _ _,_,_,h=>by simp only [au] at h ⊢;obtain ⟨b,x,c,e,r⟩:=h;exact ⟨b,x,c,hs _ _ e,r⟩
 | .dQ _,_,_,h=>by simp only [au] at h
 | .fn g cap,_,hp,h=>by
   simp only [bP] at hp
   simp only [au] at h ⊢
   obtain ⟨f,vs,e1,e2,r⟩:=h
   exact ⟨f,vs,e1,e2,mN hK hs hp r⟩
 | .agg cs,_,hp,h=>by
   simp only [bP] at hp
   simp only [au] at h ⊢
   obtain ⟨vs,e,r⟩:=h
   exact ⟨vs,e,mN hK hs hp r⟩
 | .nf cs,_,hp,h=>by
   simp only [bP] at hp
   simp only [au] at h ⊢
   obtain ⟨vs,e,r⟩:=h
   exact ⟨vs,e,mN hK hs hp r⟩
 | .own _ _,_,hp,_=>by simp [bP] at hp
 | .aB _ _,_,hp,_=>by simp [bP] at hp
 | .ji _ _,_,hp,_=>by simp [bP] at hp
theorem mN {ρ:cr} {G':Gh} (hK:G.K.le G'.K) (hs:∀s b,G.sm s=some b→G'.sm s=some b):∀{xs:List AV} {vs:List Value},bP.eW xs=true→aw ρ G xs vs→aw ρ G' xs vs
 | [],_,_,h=>by simpa only [aw] using h
 | x::xs,_,hp,h=>by
   simp only [bP.eW,Bool.and_eq_true] at hp
   simp only [aw] at h ⊢
   obtain ⟨v,r,e,e1,e2⟩:=h
   exact ⟨v,r,e,gQ hK hs hp.1 e1,mN hK hs hp.2 e2⟩
end
mutual
theorem kS:∀{x:AV},bV x=true→bP x=true
 | .pv _,_=>rfl
 | .aZ ..,_=>rfl
 | .bz ..,_=>rfl
 | .dS,_=>rfl
 | .dj _,_=>rfl
 | .dQ _,_=>rfl
 | .nv ..,h=>by simp [bV] at h
 | .fn _ cap,h=>by simp only [bV] at h;simp only [bP];exact nF h
 | .un,h=>by simp [bV] at h
 | .bJ _,h=>by simp [bP]
 | .own _ _,h=>by simp [bV] at h
 | .agg _,h=>by simp only [bV] at h;simp only [bP];exact nF h
 | .nf _,h=>by simp [bV] at h
 | .aB _ _,h=>by simp [bV] at h
 | .ji _ _,h=>by simp [bV] at h
 | .dG _,h=>by simp [bV] at h
theorem nF:∀{xs:List AV},bV.im xs=true→bP.eW xs=true
 | [],_=>rfl
 | x::xs,h=>by
   simp only [bV.im,Bool.and_eq_true] at h
   simp only [bP.eW,Bool.and_eq_true]
   exact ⟨kS h.1,nF h.2⟩
end
theorem uQ {ρ:cr} {G':Gh} (hK:G.K.le G'.K) (hs:∀s b,G.sm s=some b→G'.sm s=some b) (ht:∀τ t,G.tk τ=some t→G'.tk τ=some t) {x:AV} {v:Value} (hf:gi x=true) (h:au ρ G x v):au ρ G' x v:=by
 cases x with
 | own l τ=>
   simp only [au] at h ⊢
   obtain ⟨t,e1,e2,e3,e4⟩:=h
   exact ⟨t,ht _ _ e1,e2,e3.mono hK,fun hl=>⟨(e4 hl).1,MI (e4 hl).2 fun ⟨b,o,e,r⟩=>⟨b,o,e,Row.mono hK _ _ _ _ r⟩⟩⟩
 | _=>exact gQ hK hs (by simpa [gi] using hf) h
theorem jx {ρ:cr} {G':Gh} (hK:G.K.le G'.K) (hs:∀s b,G.sm s=some b→G'.sm s=some b) (ht:∀τ t,G.tk τ=some t→G'.tk τ=some t):∀{xs:List AV} {vs:List Value},fH xs=true→aw ρ G xs vs→aw ρ G' xs vs
 | [],_,_,h=>by simpa only [aw] using h
 | x::xs,_,hp,h=>by
   simp only [fH,Bool.and_eq_true] at hp
   simp only [aw] at h ⊢
   obtain ⟨v,r,e,e1,e2⟩:=h
   exact ⟨v,r,e,uQ hK hs ht hp.1 e1,jx hK hs ht hp.2 e2⟩
theorem nG {x:AV} (h:bm x=true):bP x=true∨∃l τ,x=.own l τ:=by
 cases x with
 | own l τ=>exact .inr ⟨l,τ,rfl⟩
 | fn g cap=>exact .inl (kS (by simpa [bm] using h))
 | pv p=>exact .inl rfl
 | bJ _=>exact .inl rfl
 | aZ _ _=>exact .inl rfl
 | bz _ _ _ _=>exact .inl rfl
 | dS=>exact .inl rfl
 | dj _=>exact .inl rfl
 | dQ _=>exact .inl rfl
 | _=>simp [bm] at h
theorem d5 {live:List Nat} {env:List (Nat×AV)}:∀{l:List Nat} {t:Nat} {v:AV},look (ca live env l) t=some v→look env t=some v∧dR live v=true∧t∈l
 | [],t,v,h=>by simp [ca,look] at h
 | s::l,t,v,h=>by
   simp only [ca] at h
   split at h
   · rename_i u hu
     split at h
     · rename_i hk
       simp only [look] at h
       split at h
       · rename_i e;subst e;cases h;exact ⟨hu,hk,by simp⟩
       · obtain ⟨h1,h2,h3⟩:=d5 h;exact ⟨h1,h2,by simp [h3]⟩
     · obtain ⟨h1,h2,h3⟩:=d5 h;exact ⟨h1,h2,by simp [h3]⟩
   · obtain ⟨h1,h2,h3⟩:=d5 h;exact ⟨h1,h2,by simp [h3]⟩
theorem d6 {mem:List (Nat×List AV)}:∀{l:List Nat} {t:Nat},look (cg mem l) t=if t∈l then look mem t else none
 | [],t=>by simp [cg,look]
 | s::l,t=>by
   simp only [cg]
   by_cases rq:s=t
   · subst rq
     cases hm:look mem s with
     | none=>simp only [hm];rw [d6,hm];simp
     | some v=>simp [look]
   · have hts:t≠s:=fun e=>rq e.symm
     cases hm:look mem s with
     | none=>simp only [hm];rw [d6];simp [hts]
     | some v=>simp only [look,rq,if_false];rw [d6];simp [hts]
def Gh.bl (G:Gh) (live:List Nat):Gh:={ G with pm:=fun d=>if d∈live then G.pm d else none }
theorem yB {ρ:cr} {live:List Nat} {x:AV} {v:Value} (hk:dR live x=true) (h:au ρ G x v):au ρ (G.bl live) x v:=by
 have flat:bP x=true→au ρ (G.bl live) x v:=fun hf=>gQ (G:=G) (G':=G.bl live) (bB.le_refl G.K) (fun _ _ h=>h) hf h
 cases x with
 | aB d o=>
   simp only [au] at h ⊢
   obtain ⟨b,e,r⟩:=h
   simp [dR] at hk
   exact ⟨b,by simp [Gh.bl,hk,e],r⟩
 | ji d o=>
   simp only [au] at h ⊢
   obtain ⟨b,e,r⟩:=h
   simp [dR] at hk
   exact ⟨b,by simp [Gh.bl,hk,e],r⟩
 | own l τ=>
   simp only [au] at h ⊢
   exact h
 | agg cs=>
   simp only [au] at h ⊢
   obtain ⟨vs,e,r⟩:=h
   exact ⟨vs,e,jx (G:=G) (G':=G.bl live) (bB.le_refl G.K) (fun _ _ h=>h) (fun _ _ h=>h) (by simpa [dR] using hk) r⟩
 | _=>exact flat (by simpa [dR] using hk)
theorem FF {ρ:cr} {live:List Nat} {x:AV} {v:Value} (hl:bm x=true) (h:au ρ G x v):au ρ (G.bl live) x v:=by
 rcases nG hl with hf | ⟨l,τ,rfl⟩
 · exact gQ (G:=G) (G':=G.bl live) (bB.le_refl G.K) (fun _ _ h=>h) hf h
 · simp only [au] at h ⊢;exact h
theorem l7 {ρ:cr} {live:List Nat}:∀{xs:List AV} {vs:List Value},xs.all bm=true→aw ρ G xs vs→aw ρ (G.bl live) xs vs
 | [],_,_,h=>by simpa only [aw] using h
 | x::xs,_,hl,h=>by
   simp only [List.all_cons,Bool.and_eq_true] at hl
   simp only [aw] at h ⊢
   obtain ⟨v,r,e,e1,e2⟩:=h
   exact ⟨v,r,e,FF hl.1 e1,l7 hl.2 e2⟩
theorem Inv.bl {mem:List (Nat×List AV)} {sh:Sh} {ae:aH} (hi:Inv (num ns) G w mem sh ae) (live:List Nat):Inv (num ns) (G.bl live) w (cg mem live) sh ae where
 known:=hi.known
 bt:=hi.bt
 fresh:=hi.fresh
 cW:=fun d cells hd=>by
   rw [d6] at hd
   split at hd
   · rename_i hl
     obtain ⟨b,e1,e2,e3⟩:=hi.cW d cells hd
     obtain ⟨hr,c,t,hh,hrel⟩:=e2
     exact ⟨b,by simp [Gh.bl,hl,e1],⟨hr,c,t,hh,l7 e3 hrel⟩,e3⟩
   · simp at hd
 g_:=fun d b hd=>by
   simp only [Gh.bl] at hd
   split at hd
   · rename_i hl;rw [d6,if_pos hl];exact hi.g_ d b hd
   · simp at hd
 dp:=fun s cells hs=>by
   obtain ⟨b,e1,e2,e3,e4⟩:=hi.dp s cells hs
   obtain ⟨hr,o,hh,hrel⟩:=e2
   exact ⟨b,e1,⟨hr,o,hh,hrel.to (fun _ _ _ h=>h) (fun _ e=>e) (fun _ r=>l7 (gI e3) r)⟩,e3,e4⟩
 eR:=hi.eR
 di:=fun τ n hn=>by
   obtain ⟨t,e1,e2,e3⟩:=hi.di τ n hn
   exact ⟨t,e1,e2,e3.cap,e3.zero,e3.spare⟩
 fo:=hi.fo
theorem bZ.bl (live:List Nat):bZ G w (G.bl live) w:=
 { size:=Nat.le_refl _,os:=rfl,tape:=rfl,output:=rfl,K:=bB.le_refl G.K,sm:=fun _ _ h=>h,d_:=fun _ _ h=>⟨h,rfl⟩,iT:=fun _ τ _ h=>.inr ⟨τ,h⟩,hH:=fun _ _ _ _ _ h=>h }
theorem fZ.restrict {n0 N:Nat} {st:St} {a:Act} (h:fZ (num ns) n0 N G st a w) (live:List Nat):fZ (num ns) n0 N (G.bl live) (restrict live st) a w:=
 ⟨⟨h.env.size,fun t x hx=>by
   obtain ⟨h1,h2,_⟩:=d5 hx
   obtain ⟨v,h3,h4⟩:=h.env.env t x h1
   exact ⟨v,h3,yB h2 h4⟩⟩,h.inv.bl live,h.marks.oo (bZ.bl live) rfl⟩
end
end Go.Ab
