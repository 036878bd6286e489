import Derived.Test.YtcjggpmnbcfedaaDoorAbFreeze
/-
  Forgetting what is no longer wanted; tokens named anew at the head of a loop.
-/
set_option linter.unusedVariables false
set_option linter.unusedSimpArgs false
set_option maxRecDepth 100000
set_option maxHeartbeats 8000000
namespace Go.Ab
section
variable {ns:Names} {G:Gh} {w:World}
mutual
theorem eh {ρ:bw} {G':Gh} (hK:G.K.le G'.K) (hs:∀s b,G.sm s=some b→G'.sm s=some b):∀{x:AV} {v:Value},a7 x=true→al ρ G x v→al ρ G' x v
 | .pv p,_,_,h=>by simp only [al] at h ⊢;exact h.mono hK
 | .un,_,_,h=>by simpa only [al] using h
 | .cg _,_,_,h=>by simp only [al] at h ⊢;obtain ⟨b,l,e,r⟩:=h;exact ⟨b,l,e,r.mono hK⟩
 | .aT s o,_,_,h=>by simp only [al] at h ⊢;obtain ⟨b,e,r⟩:=h;exact ⟨b,hs _ _ e,r⟩
 | .bh s _ n _,_,_,h=>by simp only [al] at h ⊢;obtain ⟨b,c,e,r⟩:=h;exact ⟨b,c,hs _ _ e,r⟩
 | .cC _,_,_,h=>by simp only [al] at h ⊢;obtain ⟨b,o,vs,e,f,r⟩:=h;exact ⟨b,o,vs,e,f.mono hK,cw.mono hK _ _ r⟩
 | .cz,_,_,h=>by simpa only [al] using h
 | .bY s,_,_,h=>by simp only [al] at h ⊢;obtain ⟨b,e,r⟩:=h;exact ⟨b,hs _ _ e,r⟩
 | .jn s _ _,_,_,h=>by simp only [al] at h ⊢;obtain ⟨b,x,c,e,r⟩:=h;exact ⟨b,x,c,hs _ _ e,r⟩
 | .cN _,_,_,h=>by simp only [al] at h
 | .fn g cap,_,hp,h=>by
   simp only [a7] at hp
   simp only [al] at h ⊢
   obtain ⟨f,vs,e1,e2,r⟩:=h
   exact ⟨f,vs,e1,e2,i4 hK hs hp r⟩
 | .agg cs,_,hp,h=>by
   simp only [a7] at hp
   simp only [al] at h ⊢
   obtain ⟨vs,e,r⟩:=h
   exact ⟨vs,e,i4 hK hs hp r⟩
 | .jg cs,_,hp,h=>by
   simp only [a7] at hp
   simp only [al] at h ⊢
   obtain ⟨vs,e,r⟩:=h
   exact ⟨vs,e,i4 hK hs hp r⟩
 | .own _ _,_,hp,_=>by simp [a7] at hp
 | .bt _ _,_,hp,_=>by simp [a7] at hp
theorem i4 {ρ:bw} {G':Gh} (hK:G.K.le G'.K) (hs:∀s b,G.sm s=some b→G'.sm s=some b):∀{xs:List AV} {vs:List Value},a7.dn xs=true→ae ρ G xs vs→ae ρ G' xs vs
 | [],_,_,h=>by simpa only [ae] using h
 | x::xs,_,hp,h=>by
   simp only [a7.dn,Bool.and_eq_true] at hp
   simp only [ae] at h ⊢
   obtain ⟨v,r,e,e1,e2⟩:=h
   exact ⟨v,r,e,eh hK hs hp.1 e1,i4 hK hs hp.2 e2⟩
end
mutual
theorem hG:∀{x:AV},ba x=true→a7 x=true
 | .pv _,_=>rfl
 | .aT ..,_=>rfl
 | .bh ..,_=>rfl
 | .cz,_=>rfl
 | .bY _,_=>rfl
 | .cN _,_=>rfl
 | .jn ..,h=>by simp [ba] at h
 | .fn _ cap,h=>by simp only [ba] at h;simp only [a7];exact jw h
 | .un,h=>by simp [ba] at h
 | .cg _,h=>by simp [a7]
 | .own _ _,h=>by simp [ba] at h
 | .agg _,h=>by simp only [ba] at h;simp only [a7];exact jw h
 | .jg _,h=>by simp [ba] at h
 | .bt _ _,h=>by simp [ba] at h
 | .cC _,h=>by simp [ba] at h
theorem jw:∀{xs:List AV},ba.eG xs=true→a7.dn xs=true
 | [],_=>rfl
 | x::xs,h=>by
   simp only [ba.eG,Bool.and_eq_true] at h
   simp only [a7.dn,Bool.and_eq_true]
   exact ⟨hG h.1,jw h.2⟩
end
theorem wY {ρ:bw} {G':Gh} (hK:G.K.le G'.K) (hs:∀s b,G.sm s=some b→G'.sm s=some b) (ht:∀τ t,G.tk τ=some t→G'.tk τ=some t) {x:AV} {v:Value} (hf:eH x=true) (h:al ρ G x v):al ρ G' x v:=by
 cases x with
 | own l τ=>
   simp only [al] at h ⊢
   obtain ⟨t,e1,e2,e3,e4⟩:=h
   exact ⟨t,ht _ _ e1,e2,e3.mono hK,fun hl=>⟨(e4 hl).1,Ci (e4 hl).2 fun ⟨b,o,e,r⟩=>⟨b,o,e,Row.mono hK _ _ _ _ r⟩⟩⟩
 | _=>exact eh hK hs (by simpa [eH] using hf) h
theorem jx {ρ:bw} {G':Gh} (hK:G.K.le G'.K) (hs:∀s b,G.sm s=some b→G'.sm s=some b) (ht:∀τ t,G.tk τ=some t→G'.tk τ=some t):∀{xs:List AV} {vs:List Value},ef xs=true→ae ρ G xs vs→ae ρ G' xs vs
 | [],_,_,h=>by simpa only [ae] using h
 | x::xs,_,hp,h=>by
   simp only [ef,Bool.and_eq_true] at hp
   simp only [ae] at h ⊢
   obtain ⟨v,r,e,e1,e2⟩:=h
   exact ⟨v,r,e,wY hK hs ht hp.1 e1,jx hK hs ht hp.2 e2⟩
theorem mj {x:AV} (h:aG x=true):a7 x=true∨∃l τ,x=.own l τ:=by
 cases x with
 | own l τ=>exact .inr ⟨l,τ,rfl⟩
 | fn g cap=>exact .inl (hG (by simpa [aG] using h))
 | pv p=>exact .inl rfl
 | cg _=>exact .inl rfl
 | aT _ _=>exact .inl rfl
 | bh _ _ _ _=>exact .inl rfl
 | cz=>exact .inl rfl
 | bY _=>exact .inl rfl
 | cN _=>exact .inl rfl
 | _=>simp [aG] at h
theorem dW {live:List Nat} {env:List (Nat×AV)}:∀{l:List Nat} {t:Nat} {v:AV},look (bm live env l) t=some v→look env t=some v∧df live v=true∧t∈l
 | [],t,v,h=>by simp [bm,look] at h
 | s::l,t,v,h=>by
   simp only [bm] at h
   split at h
   · rename_i u hu
     split at h
     · rename_i hk
       simp only [look] at h
       split at h
       · rename_i e;subst e;cases h;exact ⟨hu,hk,by simp⟩
       · obtain ⟨h1,h2,h3⟩:=dW h;exact ⟨h1,h2,by simp [h3]⟩
     · obtain ⟨h1,h2,h3⟩:=dW h;exact ⟨h1,h2,by simp [h3]⟩
   · obtain ⟨h1,h2,h3⟩:=dW h;exact ⟨h1,h2,by simp [h3]⟩
theorem cQ {mem:List (Nat×List AV)}:∀{l:List Nat} {t:Nat},look (bn mem l) t=if t∈l then look mem t else none
 | [],t=>by simp [bn,look]
 | s::l,t=>by
   simp only [bn]
   by_cases hst:s=t
   · subst hst
     cases hm:look mem s with
     | none=>simp only [hm];rw [cQ,hm];simp
     | some v=>simp [look]
   · have hts:t≠s:=fun e=>hst e.symm
     cases hm:look mem s with
     | none=>simp only [hm];rw [cQ];simp [hts]
     | some v=>simp only [look,hst,if_false];rw [cQ];simp [hts]
def Gh.aF (G:Gh) (live:List Nat):Gh:={ G with pm:=fun d=>if d∈live then G.pm d else none }
theorem qp {ρ:bw} {live:List Nat} {x:AV} {v:Value} (hk:df live x=true) (h:al ρ G x v):al ρ (G.aF live) x v:=by
 have flat:a7 x=true→al ρ (G.aF live) x v:=fun hf=>eh (G:=G) (G':=G.aF live) (aU.le_refl G.K) (fun _ _ h=>h) hf h
 cases x with
 | bt d o=>
   simp only [al] at h ⊢
   obtain ⟨b,e,r⟩:=h
   simp [df] at hk
   exact ⟨b,by simp [Gh.aF,hk,e],r⟩
 | own l τ=>
   simp only [al] at h ⊢
   exact h
 | agg cs=>
   simp only [al] at h ⊢
   obtain ⟨vs,e,r⟩:=h
   exact ⟨vs,e,jx (G:=G) (G':=G.aF live) (aU.le_refl G.K) (fun _ _ h=>h) (fun _ _ h=>h) (by simpa [df] using hk) r⟩
 | _=>exact flat (by simpa [df] using hk)
theorem wZ {ρ:bw} {live:List Nat} {x:AV} {v:Value} (hl:aG x=true) (h:al ρ G x v):al ρ (G.aF live) x v:=by
 rcases mj hl with hf | ⟨l,τ,rfl⟩
 · exact eh (G:=G) (G':=G.aF live) (aU.le_refl G.K) (fun _ _ h=>h) hf h
 · simp only [al] at h ⊢;exact h
theorem iH {ρ:bw} {live:List Nat}:∀{xs:List AV} {vs:List Value},xs.all aG=true→ae ρ G xs vs→ae ρ (G.aF live) xs vs
 | [],_,_,h=>by simpa only [ae] using h
 | x::xs,_,hl,h=>by
   simp only [List.all_cons,Bool.and_eq_true] at hl
   simp only [ae] at h ⊢
   obtain ⟨v,r,e,e1,e2⟩:=h
   exact ⟨v,r,e,wZ hl.1 e1,iH hl.2 e2⟩
theorem Inv.aF {mem:List (Nat×List AV)} {sh:Sh} {aa:au} (hi:Inv (num ns) G w mem sh aa) (live:List Nat):Inv (num ns) (G.aF live) w (bn mem live) sh aa where
 known:=hi.known
 aM:=hi.aM
 fresh:=hi.fresh
 bZ:=fun d cells hd=>by
   rw [cQ] at hd
   split at hd
   · rename_i hl
     obtain ⟨b,e1,e2,e3⟩:=hi.bZ d cells hd
     obtain ⟨hr,c,t,hh,hrel⟩:=e2
     exact ⟨b,by simp [Gh.aF,hl,e1],⟨hr,c,t,hh,iH e3 hrel⟩,e3⟩
   · simp at hd
 eN:=fun d b hd=>by
   simp only [Gh.aF] at hd
   split at hd
   · rename_i hl;rw [cQ,if_pos hl];exact hi.eN d b hd
   · simp at hd
 cL:=fun s cells hs=>by
   obtain ⟨b,e1,e2,e3,e4⟩:=hi.cL s cells hs
   obtain ⟨hr,o,hh,hrel⟩:=e2
   exact ⟨b,e1,⟨hr,o,hh,hrel.to (fun _ _ _ h=>h) (fun _ e=>e) (fun _ r=>iH (iV e3) r)⟩,e3,e4⟩
 dT:=hi.dT
 cn:=fun τ n hn=>by
   obtain ⟨t,e1,e2,e3⟩:=hi.cn τ n hn
   exact ⟨t,e1,e2,e3.cap,e3.zero,e3.spare⟩
 dL:=hi.dL
theorem bz.aF (live:List Nat):bz G w (G.aF live) w:=
 { size:=Nat.le_refl _,os:=rfl,tape:=rfl,output:=rfl,K:=aU.le_refl G.K,sm:=fun _ _ h=>h,cX:=fun _ _ h=>⟨h,rfl⟩,fe:=fun _ τ _ h=>.inr ⟨τ,h⟩,eE:=fun _ _ _ _ _ h=>h }
theorem eU.restrict {n0 N:Nat} {st:St} {a:Act} (h:eU (num ns) n0 N G st a w) (live:List Nat):eU (num ns) n0 N (G.aF live) (restrict live st) a w:=
 ⟨⟨h.env.size,fun t x hx=>by
   obtain ⟨h1,h2,_⟩:=dW hx
   obtain ⟨v,h3,h4⟩:=h.env.env t x h1
   exact ⟨v,h3,qp h2 h4⟩⟩,h.inv.aF live,h.marks.sv (bz.aF live) rfl⟩
end
end Go.Ab
