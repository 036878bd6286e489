import Derived.Test.YtfhhognolpjikaaGreatAbFreeze
/-
  Forgetting what is no longer wanted; tokens named anew at the head of a loop.
-/
set_option linter.unusedVariables false
set_option linter.unusedSimpArgs false
set_option maxRecDepth 100000
set_option maxHeartbeats 8000000
namespace Go.Ab
section
variable {ns:Names} {G:Gh} {w:World}
mutual
theorem fU {ρ:cg} {G':Gh} (hK:G.K.le G'.K) (hs:∀s b,G.sm s=some b→G'.sm s=some b):∀{x:AV} {v:Value},bK x=true→aE ρ G x v→aE ρ G' x v
 | .pv p,_,_,h=>by simp only [aE] at h ⊢;exact h.mono hK
 | .un,_,_,h=>by simpa only [aE] using h
 | .bD _,_,_,h=>by simp only [aE] at h ⊢;obtain ⟨b,l,e,r⟩:=h;exact ⟨b,l,e,r.mono hK⟩
 | .a_ s o,_,_,h=>by simp only [aE] at h ⊢;obtain ⟨b,e,r⟩:=h;exact ⟨b,hs _ _ e,r⟩
 | .bu s _ n _,_,_,h=>by simp only [aE] at h ⊢;obtain ⟨b,c,e,r⟩:=h;exact ⟨b,c,hs _ _ e,r⟩
 | .dz _,_,_,h=>by simp only [aE] at h ⊢;obtain ⟨b,o,vs,e,f,r⟩:=h;exact ⟨b,o,vs,e,f.mono hK,dK.mono hK _ _ r⟩
 | .dw,_,_,h=>by simpa only [aE] using h
 | .cv s,_,_,h=>by simp only [aE] at h ⊢;obtain ⟨b,e,r⟩:=h;exact ⟨b,hs _ _ e,r⟩
 | .lZ s _ _,_,_,h=>by simp only [aE] at h ⊢;obtain ⟨b,x,c,e,r⟩:=h;exact ⟨b,x,c,hs _ _ e,r⟩
 | .du _,_,_,h=>by simp only [aE] at h
 | .fn g cap,_,hp,h=>by
   simp only [bK] at hp
   simp only [aE] at h ⊢
   obtain ⟨f,vs,e1,e2,r⟩:=h
   exact ⟨f,vs,e1,e2,lq hK hs hp r⟩
 | .agg cs,_,hp,h=>by
   simp only [bK] at hp
   simp only [aE] at h ⊢
   obtain ⟨vs,e,r⟩:=h
   exact ⟨vs,e,lq hK hs hp r⟩
 | .lL cs,_,hp,h=>by
   simp only [bK] at hp
   simp only [aE] at h ⊢
   obtain ⟨vs,e,r⟩:=h
   exact ⟨vs,e,lq hK hs hp r⟩
 | .own _ _,_,hp,_=>by simp [bK] at hp
 | .az _ _,_,hp,_=>by simp [bK] at hp
theorem lq {ρ:cg} {G':Gh} (hK:G.K.le G'.K) (hs:∀s b,G.sm s=some b→G'.sm s=some b):∀{xs:List AV} {vs:List Value},bK.dX xs=true→aB ρ G xs vs→aB ρ G' xs vs
 | [],_,_,h=>by simpa only [aB] using h
 | x::xs,_,hp,h=>by
   simp only [bK.dX,Bool.and_eq_true] at hp
   simp only [aB] at h ⊢
   obtain ⟨v,r,e,e1,e2⟩:=h
   exact ⟨v,r,e,fU hK hs hp.1 e1,lq hK hs hp.2 e2⟩
end
mutual
theorem jO:∀{x:AV},bQ x=true→bK x=true
 | .pv _,_=>rfl
 | .a_ ..,_=>rfl
 | .bu ..,_=>rfl
 | .dw,_=>rfl
 | .cv _,_=>rfl
 | .du _,_=>rfl
 | .lZ ..,h=>by simp [bQ] at h
 | .fn _ cap,h=>by simp only [bQ] at h;simp only [bK];exact me h
 | .un,h=>by simp [bQ] at h
 | .bD _,h=>by simp [bK]
 | .own _ _,h=>by simp [bQ] at h
 | .agg _,h=>by simp only [bQ] at h;simp only [bK];exact me h
 | .lL _,h=>by simp [bQ] at h
 | .az _ _,h=>by simp [bQ] at h
 | .dz _,h=>by simp [bQ] at h
theorem me:∀{xs:List AV},bQ.gG xs=true→bK.dX xs=true
 | [],_=>rfl
 | x::xs,h=>by
   simp only [bQ.gG,Bool.and_eq_true] at h
   simp only [bK.dX,Bool.and_eq_true]
   exact ⟨jO h.1,me h.2⟩
end
theorem CT {ρ:cg} {G':Gh} (hK:G.K.le G'.K) (hs:∀s b,G.sm s=some b→G'.sm s=some b) (ht:∀τ t,G.tk τ=some t→G'.tk τ=some t) {x:AV} {v:Value} (hf:gH x=true) (h:aE ρ G x v):aE ρ G' x v:=by
 cases x with
 | own l τ=>
   simp only [aE] at h ⊢
   obtain ⟨t,e1,e2,e3,e4⟩:=h
   exact ⟨t,ht _ _ e1,e2,e3.mono hK,fun hl=>⟨(e4 hl).1,JI (e4 hl).2 fun ⟨b,o,e,r⟩=>⟨b,o,e,Row.mono hK _ _ _ _ r⟩⟩⟩
 | _=>exact fU hK hs (by simpa [gH] using hf) h
theorem mf {ρ:cg} {G':Gh} (hK:G.K.le G'.K) (hs:∀s b,G.sm s=some b→G'.sm s=some b) (ht:∀τ t,G.tk τ=some t→G'.tk τ=some t):∀{xs:List AV} {vs:List Value},fJ xs=true→aB ρ G xs vs→aB ρ G' xs vs
 | [],_,_,h=>by simpa only [aB] using h
 | x::xs,_,hp,h=>by
   simp only [fJ,Bool.and_eq_true] at hp
   simp only [aB] at h ⊢
   obtain ⟨v,r,e,e1,e2⟩:=h
   exact ⟨v,r,e,CT hK hs ht hp.1 e1,mf hK hs ht hp.2 e2⟩
theorem qy {x:AV} (h:bm x=true):bK x=true∨∃l τ,x=.own l τ:=by
 cases x with
 | own l τ=>exact .inr ⟨l,τ,rfl⟩
 | fn g cap=>exact .inl (jO (by simpa [bm] using h))
 | pv p=>exact .inl rfl
 | bD _=>exact .inl rfl
 | a_ _ _=>exact .inl rfl
 | bu _ _ _ _=>exact .inl rfl
 | dw=>exact .inl rfl
 | cv _=>exact .inl rfl
 | du _=>exact .inl rfl
 | _=>simp [bm] at h
theorem fe {live:List Nat} {env:List (Nat×AV)}:∀{l:List Nat} {t:Nat} {v:AV},look (bX live env l) t=some v→look env t=some v∧eo live v=true∧t∈l
 | [],t,v,h=>by simp [bX,look] at h
 | s::l,t,v,h=>by
   simp only [bX] at h
   split at h
   · rename_i u hu
     split at h
     · rename_i hk
       simp only [look] at h
       split at h
       · rename_i e;subst e;cases h;exact ⟨hu,hk,by simp⟩
       · obtain ⟨h1,h2,h3⟩:=fe h;exact ⟨h1,h2,by simp [h3]⟩
     · obtain ⟨h1,h2,h3⟩:=fe h;exact ⟨h1,h2,by simp [h3]⟩
   · obtain ⟨h1,h2,h3⟩:=fe h;exact ⟨h1,h2,by simp [h3]⟩
theorem dO {mem:List (Nat×List AV)}:∀{l:List Nat} {t:Nat},look (bY mem l) t=if t∈l then look mem t else none
 | [],t=>by simp [bY,look]
 | s::l,t=>by
   simp only [bY]
   by_cases hst:s=t
   · subst hst
     cases hm:look mem s with
     | none=>simp only [hm];rw [dO,hm];simp
     | some v=>simp [look]
   · have hts:t≠s:=fun e=>hst e.symm
     cases hm:look mem s with
     | none=>simp only [hm];rw [dO];simp [hts]
     | some v=>simp only [look,hst,if_false];rw [dO];simp [hts]
def Gh.bg (G:Gh) (live:List Nat):Gh:={ G with pm:=fun d=>if d∈live then G.pm d else none }
theorem vV {ρ:cg} {live:List Nat} {x:AV} {v:Value} (hk:eo live x=true) (h:aE ρ G x v):aE ρ (G.bg live) x v:=by
 have flat:bK x=true→aE ρ (G.bg live) x v:=fun hf=>fU (G:=G) (G':=G.bg live) (bM.le_refl G.K) (fun _ _ h=>h) hf h
 cases x with
 | az d o=>
   simp only [aE] at h ⊢
   obtain ⟨b,e,r⟩:=h
   simp [eo] at hk
   exact ⟨b,by simp [Gh.bg,hk,e],r⟩
 | own l τ=>
   simp only [aE] at h ⊢
   exact h
 | agg cs=>
   simp only [aE] at h ⊢
   obtain ⟨vs,e,r⟩:=h
   exact ⟨vs,e,mf (G:=G) (G':=G.bg live) (bM.le_refl G.K) (fun _ _ h=>h) (fun _ _ h=>h) (by simpa [eo] using hk) r⟩
 | _=>exact flat (by simpa [eo] using hk)
theorem CU {ρ:cg} {live:List Nat} {x:AV} {v:Value} (hl:bm x=true) (h:aE ρ G x v):aE ρ (G.bg live) x v:=by
 rcases qy hl with hf | ⟨l,τ,rfl⟩
 · exact fU (G:=G) (G':=G.bg live) (bM.le_refl G.K) (fun _ _ h=>h) hf h
 · simp only [aE] at h ⊢;exact h
theorem kD {ρ:cg} {live:List Nat}:∀{xs:List AV} {vs:List Value},xs.all bm=true→aB ρ G xs vs→aB ρ (G.bg live) xs vs
 | [],_,_,h=>by simpa only [aB] using h
 | x::xs,_,hl,h=>by
   simp only [List.all_cons,Bool.and_eq_true] at hl
   simp only [aB] at h ⊢
   obtain ⟨v,r,e,e1,e2⟩:=h
   exact ⟨v,r,e,CU hl.1 e1,kD hl.2 e2⟩
theorem Inv.bg {mem:List (Nat×List AV)} {sh:Sh} {ah:aM} (hi:Inv (num ns) G w mem sh ah) (live:List Nat):Inv (num ns) (G.bg live) w (bY mem live) sh ah where
 known:=hi.known
 bt:=hi.bt
 fresh:=hi.fresh
 da:=fun d cells hd=>by
   rw [dO] at hd
   split at hd
   · rename_i hl
     obtain ⟨b,e1,e2,e3⟩:=hi.da d cells hd
     obtain ⟨hr,c,t,hh,hrel⟩:=e2
     exact ⟨b,by simp [Gh.bg,hl,e1],⟨hr,c,t,hh,kD e3 hrel⟩,e3⟩
   · simp at hd
 gN:=fun d b hd=>by
   simp only [Gh.bg] at hd
   split at hd
   · rename_i hl;rw [dO,if_pos hl];exact hi.gN d b hd
   · simp at hd
 dN:=fun s cells hs=>by
   obtain ⟨b,e1,e2,e3,e4⟩:=hi.dN s cells hs
   obtain ⟨hr,o,hh,hrel⟩:=e2
   exact ⟨b,e1,⟨hr,o,hh,hrel.to (fun _ _ _ h=>h) (fun _ e=>e) (fun _ r=>kD (lg e3) r)⟩,e3,e4⟩
 eZ:=hi.eZ
 dp:=fun τ n hn=>by
   obtain ⟨t,e1,e2,e3⟩:=hi.dp τ n hn
   exact ⟨t,e1,e2,e3.cap,e3.zero,e3.spare⟩
 e8:=hi.e8
theorem cu.bg (live:List Nat):cu G w (G.bg live) w:=
 { size:=Nat.le_refl _,os:=rfl,tape:=rfl,output:=rfl,K:=bM.le_refl G.K,sm:=fun _ _ h=>h,dV:=fun _ _ h=>⟨h,rfl⟩,ir:=fun _ τ _ h=>.inr ⟨τ,h⟩,gB:=fun _ _ _ _ _ h=>h }
theorem gX.restrict {n0 N:Nat} {st:St} {a:Act} (h:gX (num ns) n0 N G st a w) (live:List Nat):gX (num ns) n0 N (G.bg live) (restrict live st) a w:=
 ⟨⟨h.env.size,fun t x hx=>by
   obtain ⟨h1,h2,_⟩:=fe hx
   obtain ⟨v,h3,h4⟩:=h.env.env t x h1
   exact ⟨v,h3,vV h2 h4⟩⟩,h.inv.bg live,h.marks.yx (cu.bg live) rfl⟩
end
end Go.Ab
