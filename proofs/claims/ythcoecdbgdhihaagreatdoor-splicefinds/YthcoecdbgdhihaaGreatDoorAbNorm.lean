import Derived.Test.YthcoecdbgdhihaaGreatDoorAbFreeze
/-
  Forgetting what is no longer wanted; tokens named anew at the head of a loop.
-/
set_option linter.unusedVariables false
set_option linter.unusedSimpArgs false
set_option linter.unnecessarySimpa false
set_option maxRecDepth 100000
set_option maxHeartbeats 8000000
namespace Go.Ab
section
variable {ns:Names} {G:Gh} {w:World}
mutual
theorem iQ {ρ:cx} {G':Gh} (hK:G.K.le G'.K) (hs:∀s b,G.sm s=some b→G'.sm s=some b):∀{x:AV} {v:Value},cy x=true→aC ρ G x v→aC ρ G' x v
 | .pv p,_,_,h=>by simp only [aC] at h ⊢;exact h.mono hK
 | .un,_,_,h=>by simpa only [aC] using h
 | .bN _,_,_,h=>by simp only [aC] at h ⊢;obtain ⟨b,l,e,r⟩:=h;exact ⟨b,l,e,r.mono hK⟩
 | .bu s o,_,_,h=>by simp only [aC] at h ⊢;obtain ⟨b,e,r⟩:=h;exact ⟨b,hs _ _ e,r⟩
 | .bI s _ n _,_,_,h=>by simp only [aC] at h ⊢;obtain ⟨b,c,e,r⟩:=h;exact ⟨b,c,hs _ _ e,r⟩
 | .fR _,_,_,h=>by simp only [aC] at h ⊢;obtain ⟨b,o,vs,e,f,r⟩:=h;exact ⟨b,o,vs,e,f.mono hK,dS.mono hK _ _ r⟩
 | .jI,_,_,h=>by simpa only [aC] using h
 | .jJ s,_,_,h=>by simp only [aC] at h ⊢;obtain ⟨b,e,r⟩:=h;exact ⟨b,hs _ _ e,r⟩
 | .pN s _ _,_,_,h=>by simp only [aC] at h ⊢;obtain ⟨b,x,c,e,r⟩:=h;exact ⟨b,x,c,hs _ _ e,r⟩
 | .fo _,_,_,h=>by simp only [aC] at h
 | .fn g cap,_,hp,h=>by
   simp only [cy] at hp
   simp only [aC] at h ⊢
   obtain ⟨f,vs,e1,e2,r⟩:=h
   exact ⟨f,vs,e1,e2,lQ hK hs hp r⟩
 | .agg cs,_,hp,h=>by
   simp only [cy] at hp
   simp only [aC] at h ⊢
   obtain ⟨vs,e,r⟩:=h
   exact ⟨vs,e,lQ hK hs hp r⟩
 | .oP cs,_,hp,h=>by
   simp only [cy] at hp
   simp only [aC] at h ⊢
   obtain ⟨vs,e,r⟩:=h
   exact ⟨vs,e,lQ hK hs hp r⟩
 | .own _ _,_,hp,_=>by simp [cy] at hp
 | .aG _ _,_,hp,_=>by simp [cy] at hp
 | .jK _ _,_,hp,_=>by simp [cy] at hp
theorem lQ {ρ:cx} {G':Gh} (hK:G.K.le G'.K) (hs:∀s b,G.sm s=some b→G'.sm s=some b):∀{xs:List AV} {vs:List Value},cy.gr xs=true→az ρ G xs vs→az ρ G' xs vs
 | [],_,_,h=>by simpa only [az] using h
 | x::xs,_,hp,h=>by
   simp only [cy.gr,Bool.and_eq_true] at hp
   simp only [az] at h ⊢
   obtain ⟨v,r,e,e1,e2⟩:=h
   exact ⟨v,r,e,iQ hK hs hp.1 e1,lQ hK hs hp.2 e2⟩
end
mutual
theorem kf:∀{x:AV},cB x=true→cy x=true
 | .pv _,_=>rfl
 | .bu ..,_=>rfl
 | .bI ..,_=>rfl
 | .jI,_=>rfl
 | .jJ _,_=>rfl
 | .fo _,_=>rfl
 | .pN ..,h=>by simp [cB] at h
 | .fn _ cap,h=>by simp only [cB] at h;simp only [cy];exact mE h
 | .un,h=>by simp [cB] at h
 | .bN _,h=>by simp [cy]
 | .own _ _,h=>by simp [cB] at h
 | .agg _,h=>by simp only [cB] at h;simp only [cy];exact mE h
 | .oP _,h=>by simp [cB] at h
 | .aG _ _,h=>by simp [cB] at h
 | .jK _ _,h=>by simp [cB] at h
 | .fR _,h=>by simp [cB] at h
theorem mE:∀{xs:List AV},cB.jL xs=true→cy.gr xs=true
 | [],_=>rfl
 | x::xs,h=>by
   simp only [cB.jL,Bool.and_eq_true] at h
   simp only [cy.gr,Bool.and_eq_true]
   exact ⟨kf h.1,mE h.2⟩
end
theorem tE {ρ:cx} {G':Gh} (hK:G.K.le G'.K) (hs:∀s b,G.sm s=some b→G'.sm s=some b) (ht:∀τ t,G.tk τ=some t→G'.tk τ=some t) {x:AV} {v:Value} (hf:jl x=true) (h:aC ρ G x v):aC ρ G' x v:=by
 cases x with
 | own l τ=>
   simp only [aC] at h ⊢
   obtain ⟨t,e1,e2,e3,e4⟩:=h
   exact ⟨t,ht _ _ e1,e2,e3.mono hK,fun hl=>⟨(e4 hl).1,IS (e4 hl).2 fun ⟨b,o,e,r⟩=>⟨b,o,e,Row.mono hK _ _ _ _ r⟩⟩⟩
 | _=>exact iQ hK hs (by simpa [jl] using hf) h
theorem jb {ρ:cx} {G':Gh} (hK:G.K.le G'.K) (hs:∀s b,G.sm s=some b→G'.sm s=some b) (ht:∀τ t,G.tk τ=some t→G'.tk τ=some t):∀{xs:List AV} {vs:List Value},fD xs=true→az ρ G xs vs→az ρ G' xs vs
 | [],_,_,h=>by simpa only [az] using h
 | x::xs,_,hp,h=>by
   simp only [fD,Bool.and_eq_true] at hp
   simp only [az] at h ⊢
   obtain ⟨v,r,e,e1,e2⟩:=h
   exact ⟨v,r,e,tE hK hs ht hp.1 e1,jb hK hs ht hp.2 e2⟩
theorem mF {x:AV} (h:bp x=true):cy x=true∨∃l τ,x=.own l τ:=by
 cases x with
 | own l τ=>exact .inr ⟨l,τ,rfl⟩
 | fn g cap=>exact .inl (kf (by simpa [bp] using h))
 | pv p=>exact .inl rfl
 | bN _=>exact .inl rfl
 | bu _ _=>exact .inl rfl
 | bI _ _ _ _=>exact .inl rfl
 | jI=>exact .inl rfl
 | jJ _=>exact .inl rfl
 | fo _=>exact .inl rfl
 | _=>simp [bp] at h
theorem dU {live:List Nat} {env:List (Nat×AV)}:∀{l:List Nat} {t:Nat} {v:AV},look (ca live env l) t=some v→look env t=some v∧ei live v=true∧t∈l
 | [],t,v,h=>by simp [ca,look] at h
 | s::l,t,v,h=>by
   simp only [ca] at h
   split at h
   · rename_i u hu
     split at h
     · rename_i hk
       simp only [look] at h
       split at h
       · rename_i e;subst e;cases h;exact ⟨hu,hk,by simp⟩
       · obtain ⟨h1,h2,h3⟩:=dU h;exact ⟨h1,h2,by simp [h3]⟩
     · obtain ⟨h1,h2,h3⟩:=dU h;exact ⟨h1,h2,by simp [h3]⟩
   · obtain ⟨h1,h2,h3⟩:=dU h;exact ⟨h1,h2,by simp [h3]⟩
theorem dV {mem:List (Nat×List AV)}:∀{l:List Nat} {t:Nat},look (cg mem l) t=if t∈l then look mem t else none
 | [],t=>by simp [cg,look]
 | s::l,t=>by
   simp only [cg]
   by_cases tv:s=t
   · subst tv
     cases hm:look mem s with
     | none=>simp only [hm];rw [dV,hm];simp
     | some v=>simp [look]
   · have hts:t≠s:=fun e=>tv e.symm
     cases hm:look mem s with
     | none=>simp only [hm];rw [dV];simp [hts]
     | some v=>simp only [look,tv,if_false];rw [dV];simp [hts]
def Gh.bq (G:Gh) (live:List Nat):Gh:={ G with pm:=fun d=>if d∈live then G.pm d else none }
theorem wO {ρ:cx} {live:List Nat} {x:AV} {v:Value} (hk:ei live x=true) (h:aC ρ G x v):aC ρ (G.bq live) x v:=by
 have flat:cy x=true→aC ρ (G.bq live) x v:=fun hf=>iQ (G:=G) (G':=G.bq live) (bE.le_refl G.K) (fun _ _ h=>h) hf h
 cases x with
 | aG d o=>
   simp only [aC] at h ⊢
   obtain ⟨b,e,r⟩:=h
   simp [ei] at hk
   exact ⟨b,by simp [Gh.bq,hk,e],r⟩
 | jK d o=>
   simp only [aC] at h ⊢
   obtain ⟨b,e,r⟩:=h
   simp [ei] at hk
   exact ⟨b,by simp [Gh.bq,hk,e],r⟩
 | own l τ=>
   simp only [aC] at h ⊢
   exact h
 | agg cs=>
   simp only [aC] at h ⊢
   obtain ⟨vs,e,r⟩:=h
   exact ⟨vs,e,jb (G:=G) (G':=G.bq live) (bE.le_refl G.K) (fun _ _ h=>h) (fun _ _ h=>h) (by simpa [ei] using hk) r⟩
 | _=>exact flat (by simpa [ei] using hk)
theorem C6 {ρ:cx} {live:List Nat} {x:AV} {v:Value} (hl:bp x=true) (h:aC ρ G x v):aC ρ (G.bq live) x v:=by
 rcases mF hl with hf | ⟨l,τ,rfl⟩
 · exact iQ (G:=G) (G':=G.bq live) (bE.le_refl G.K) (fun _ _ h=>h) hf h
 · simp only [aC] at h ⊢;exact h
theorem lh {ρ:cx} {live:List Nat}:∀{xs:List AV} {vs:List Value},xs.all bp=true→az ρ G xs vs→az ρ (G.bq live) xs vs
 | [],_,_,h=>by simpa only [az] using h
 | x::xs,_,hl,h=>by
   simp only [List.all_cons,Bool.and_eq_true] at hl
   simp only [az] at h ⊢
   obtain ⟨v,r,e,e1,e2⟩:=h
   exact ⟨v,r,e,C6 hl.1 e1,lh hl.2 e2⟩
theorem Inv.bq {mem:List (Nat×List AV)} {sh:Sh} {ah:aN} (hi:Inv (num ns) G w mem sh ah) (live:List Nat):Inv (num ns) (G.bq live) w (cg mem live) sh ah where
 known:=hi.known
 bt:=hi.bt
 fresh:=hi.fresh
 dk:=fun d cells hd=>by
   rw [dV] at hd
   split at hd
   · rename_i hl
     obtain ⟨b,e1,e2,e3⟩:=hi.dk d cells hd
     obtain ⟨hr,c,t,hh,hrel⟩:=e2
     exact ⟨b,by simp [Gh.bq,hl,e1],⟨hr,c,t,hh,lh e3 hrel⟩,e3⟩
   · simp at hd
 gI:=fun d b hd=>by
   simp only [Gh.bq] at hd
   split at hd
   · rename_i hl;rw [dV,if_pos hl];exact hi.gI d b hd
   · simp at hd
 dM:=fun s cells hs=>by
   obtain ⟨b,e1,e2,e3,e4⟩:=hi.dM s cells hs
   obtain ⟨hr,o,hh,hrel⟩:=e2
   exact ⟨b,e1,⟨hr,o,hh,hrel.to (fun _ _ _ h=>h) (fun _ e=>e) (fun _ r=>lh (iL e3) r)⟩,e3,e4⟩
 eE:=hi.eE
 dE:=fun τ n hn=>by
   obtain ⟨t,e1,e2,e3⟩:=hi.dE τ n hn
   exact ⟨t,e1,e2,e3.cap,e3.zero,e3.spare⟩
 eW:=hi.eW
 jM:=hi.jM
theorem cp.bq (live:List Nat):cp G w (G.bq live) w:=
 { size:=Nat.le_refl _,os:=rfl,tape:=rfl,output:=rfl,K:=bE.le_refl G.K,sm:=fun _ _ h=>h,eA:=fun _ _ h=>⟨h,rfl⟩,iD:=fun _ τ _ h=>.inr ⟨τ,h⟩,gJ:=fun _ _ _ _ _ h=>h }
theorem gO.restrict {n0 N:Nat} {st:St} {a:Act} (h:gO (num ns) n0 N G st a w) (live:List Nat):gO (num ns) n0 N (G.bq live) (restrict live st) a w:=
 ⟨⟨h.env.size,fun t x hx=>by
   obtain ⟨h1,h2,_⟩:=dU hx
   obtain ⟨v,h3,h4⟩:=h.env.env t x h1
   exact ⟨v,h3,wO h2 h4⟩⟩,h.inv.bq live,h.marks.oT (cp.bq live) rfl⟩
end
end Go.Ab
