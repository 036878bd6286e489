import Derived.Test.YtejloknaphfbeaaGreatAbFreeze
/-
  Forgetting what is no longer wanted; tokens named anew at the head of a loop.
-/
set_option linter.unusedVariables false
set_option linter.unusedSimpArgs false
namespace Go.Ab

section
variable {ns : Names} {G : Gh} {w : World}

mutual
theorem flatB_rel {ρ : Nums} {G' : Gh} (hK : G.K.le G'.K) (hs : ∀ s b, G.sm s = some b → G'.sm s = some b) : ∀ {x : AV} {v : Value}, flatB x = true → RelA ρ G x v → RelA ρ G' x v
  | .pv p, _, _, h => by simp only [RelA] at h ⊢; exact h.mono hK
  | .un, _, _, h => by simpa only [RelA] using h
  | .clp _, _, _, h => by simp only [RelA] at h ⊢; obtain ⟨b, l, e, r⟩ := h; exact ⟨b, l, e, r.mono hK⟩
  | .sptr s o, _, _, h => by simp only [RelA] at h ⊢; obtain ⟨b, e, r⟩ := h; exact ⟨b, hs _ _ e, r⟩
  | .sarr s _ n _, _, _, h => by simp only [RelA] at h ⊢; obtain ⟨b, c, e, r⟩ := h; exact ⟨b, c, hs _ _ e, r⟩
  | .eptr _, _, _, h => by simp only [RelA] at h ⊢; obtain ⟨b, o, vs, e, f, r⟩ := h; exact ⟨b, o, vs, e, f.mono hK, RLs.mono hK _ _ r⟩
  | .nilp, _, _, h => by simpa only [RelA] using h
  | .mref s, _, _, h => by simp only [RelA] at h ⊢; obtain ⟨b, e, r⟩ := h; exact ⟨b, hs _ _ e, r⟩
  | .ssub s _ _, _, _, h => by simp only [RelA] at h ⊢; obtain ⟨b, x, c, e, r⟩ := h; exact ⟨b, x, c, hs _ _ e, r⟩
  | .mapc _, _, _, h => by simp only [RelA] at h
  | .fn g cap, _, hp, h => by
    simp only [flatB] at hp
    simp only [RelA] at h ⊢
    obtain ⟨f, vs, e1, e2, r⟩ := h
    exact ⟨f, vs, e1, e2, flatL_rel hK hs hp r⟩
  | .agg cs, _, hp, h => by
    simp only [flatB] at hp
    simp only [RelA] at h ⊢
    obtain ⟨vs, e, r⟩ := h
    exact ⟨vs, e, flatL_rel hK hs hp r⟩
  | .tup cs, _, hp, h => by
    simp only [flatB] at hp
    simp only [RelA] at h ⊢
    obtain ⟨vs, e, r⟩ := h
    exact ⟨vs, e, flatL_rel hK hs hp r⟩
  | .own _ _, _, hp, _ => by simp [flatB] at hp
  | .lptr _ _, _, hp, _ => by simp [flatB] at hp
theorem flatL_rel {ρ : Nums} {G' : Gh} (hK : G.K.le G'.K) (hs : ∀ s b, G.sm s = some b → G'.sm s = some b) : ∀ {xs : List AV} {vs : List Value}, flatB.flatL xs = true → RelAs ρ G xs vs → RelAs ρ G' xs vs
  | [], _, _, h => by simpa only [RelAs] using h
  | x :: xs, _, hp, h => by
    simp only [flatB.flatL, Bool.and_eq_true] at hp
    simp only [RelAs] at h ⊢
    obtain ⟨v, r, e, e1, e2⟩ := h
    exact ⟨v, r, e, flatB_rel hK hs hp.1 e1, flatL_rel hK hs hp.2 e2⟩
end

mutual
theorem passB_flat : ∀ {x : AV}, passB x = true → flatB x = true
  | .pv _, _ => rfl
  | .sptr .., _ => rfl
  | .sarr .., _ => rfl
  | .nilp, _ => rfl
  | .mref _, _ => rfl
  | .mapc _, _ => rfl
  | .ssub .., h => by simp [passB] at h
  | .fn _ cap, h => by simp only [passB] at h; simp only [flatB]; exact passL_flat h
  | .un, h => by simp [passB] at h
  | .clp _, h => by simp [flatB]
  | .own _ _, h => by simp [passB] at h
  | .agg _, h => by simp only [passB] at h; simp only [flatB]; exact passL_flat h
  | .tup _, h => by simp [passB] at h
  | .lptr _ _, h => by simp [passB] at h
  | .eptr _, h => by simp [passB] at h
theorem passL_flat : ∀ {xs : List AV}, passB.passL xs = true → flatB.flatL xs = true
  | [], _ => rfl
  | x :: xs, h => by
    simp only [passB.passL, Bool.and_eq_true] at h
    simp only [flatB.flatL, Bool.and_eq_true]
    exact ⟨passB_flat h.1, passL_flat h.2⟩
end

theorem flatO_rel {ρ : Nums} {G' : Gh} (hK : G.K.le G'.K) (hs : ∀ s b, G.sm s = some b → G'.sm s = some b) (ht : ∀ τ t, G.tk τ = some t → G'.tk τ = some t) {x : AV} {v : Value} (hf : flatO x = true) (h : RelA ρ G x v) : RelA ρ G' x v := by
  cases x with
  | own l τ =>
    simp only [RelA] at h ⊢
    obtain ⟨t, e1, e2, e3, e4⟩ := h
    exact ⟨t, ht _ _ e1, e2, e3.mono hK, fun hl => ⟨(e4 hl).1, orR (e4 hl).2 fun ⟨b, o, e, r⟩ => ⟨b, o, e, Row.mono hK _ _ _ _ r⟩⟩⟩
  | _ => exact flatB_rel hK hs (by simpa [flatO] using hf) h

theorem flatOs_rel {ρ : Nums} {G' : Gh} (hK : G.K.le G'.K) (hs : ∀ s b, G.sm s = some b → G'.sm s = some b) (ht : ∀ τ t, G.tk τ = some t → G'.tk τ = some t) : ∀ {xs : List AV} {vs : List Value}, flatOL xs = true → RelAs ρ G xs vs → RelAs ρ G' xs vs
  | [], _, _, h => by simpa only [RelAs] using h
  | x :: xs, _, hp, h => by
    simp only [flatOL, Bool.and_eq_true] at hp
    simp only [RelAs] at h ⊢
    obtain ⟨v, r, e, e1, e2⟩ := h
    exact ⟨v, r, e, flatO_rel hK hs ht hp.1 e1, flatOs_rel hK hs ht hp.2 e2⟩

theorem leafB_flat {x : AV} (h : leafB x = true) : flatB x = true ∨ ∃ l τ, x = .own l τ := by
  cases x with
  | own l τ => exact .inr ⟨l, τ, rfl⟩
  | fn g cap => exact .inl (passB_flat (by simpa [leafB] using h))
  | pv p => exact .inl rfl
  | clp _ => exact .inl rfl
  | sptr _ _ => exact .inl rfl
  | sarr _ _ _ _ => exact .inl rfl
  | nilp => exact .inl rfl
  | mref _ => exact .inl rfl
  | mapc _ => exact .inl rfl
  | _ => simp [leafB] at h

/-! ### Forgetting -/

theorem look_restrictEnv {live : List Nat} {env : List (Nat × AV)} : ∀ {l : List Nat} {t : Nat} {v : AV}, look (restrictEnv live env l) t = some v → look env t = some v ∧ keepB live v = true ∧ t ∈ l
  | [], t, v, h => by simp [restrictEnv, look] at h
  | s :: l, t, v, h => by
    simp only [restrictEnv] at h
    split at h
    · rename_i u hu
      split at h
      · rename_i hk
        simp only [look] at h
        split at h
        · rename_i e; subst e; cases h; exact ⟨hu, hk, by simp⟩
        · obtain ⟨h1, h2, h3⟩ := look_restrictEnv h; exact ⟨h1, h2, by simp [h3]⟩
      · obtain ⟨h1, h2, h3⟩ := look_restrictEnv h; exact ⟨h1, h2, by simp [h3]⟩
    · obtain ⟨h1, h2, h3⟩ := look_restrictEnv h; exact ⟨h1, h2, by simp [h3]⟩

theorem look_restrictMem {mem : List (Nat × List AV)} : ∀ {l : List Nat} {t : Nat}, look (restrictMem mem l) t = if t ∈ l then look mem t else none
  | [], t => by simp [restrictMem, look]
  | s :: l, t => by
    simp only [restrictMem]
    by_cases hst : s = t
    · subst hst
      cases hm : look mem s with
      | none => simp only [hm]; rw [look_restrictMem, hm]; simp
      | some v => simp [look]
    · have hts : t ≠ s := fun e => hst e.symm
      cases hm : look mem s with
      | none => simp only [hm]; rw [look_restrictMem]; simp [hts]
      | some v => simp only [look, hst, if_false]; rw [look_restrictMem]; simp [hts]

def Gh.keep (G : Gh) (live : List Nat) : Gh := { G with pm := fun d => if d ∈ live then G.pm d else none }

theorem keep_rel {ρ : Nums} {live : List Nat} {x : AV} {v : Value} (hk : keepB live x = true) (h : RelA ρ G x v) : RelA ρ (G.keep live) x v := by
  have flat : flatB x = true → RelA ρ (G.keep live) x v := fun hf => flatB_rel (G := G) (G' := G.keep live) (Know.le_refl G.K) (fun _ _ h => h) hf h
  cases x with
  | lptr d o =>
    simp only [RelA] at h ⊢
    obtain ⟨b, e, r⟩ := h
    simp [keepB] at hk
    exact ⟨b, by simp [Gh.keep, hk, e], r⟩
  | own l τ =>
    simp only [RelA] at h ⊢
    exact h
  | agg cs =>
    simp only [RelA] at h ⊢
    obtain ⟨vs, e, r⟩ := h
    exact ⟨vs, e, flatOs_rel (G := G) (G' := G.keep live) (Know.le_refl G.K) (fun _ _ h => h) (fun _ _ h => h) (by simpa [keepB] using hk) r⟩
  | _ => exact flat (by simpa [keepB] using hk)

theorem leaf_keep {ρ : Nums} {live : List Nat} {x : AV} {v : Value} (hl : leafB x = true) (h : RelA ρ G x v) : RelA ρ (G.keep live) x v := by
  rcases leafB_flat hl with hf | ⟨l, τ, rfl⟩
  · exact flatB_rel (G := G) (G' := G.keep live) (Know.le_refl G.K) (fun _ _ h => h) hf h
  · simp only [RelA] at h ⊢; exact h

theorem leaves_keep {ρ : Nums} {live : List Nat} : ∀ {xs : List AV} {vs : List Value}, xs.all leafB = true → RelAs ρ G xs vs → RelAs ρ (G.keep live) xs vs
  | [], _, _, h => by simpa only [RelAs] using h
  | x :: xs, _, hl, h => by
    simp only [List.all_cons, Bool.and_eq_true] at hl
    simp only [RelAs] at h ⊢
    obtain ⟨v, r, e, e1, e2⟩ := h
    exact ⟨v, r, e, leaf_keep hl.1 e1, leaves_keep hl.2 e2⟩

theorem Inv.keep {mem : List (Nat × List AV)} {sh : Sh} {toks : Toks} (hi : Inv (num ns) G w mem sh toks) (live : List Nat) : Inv (num ns) (G.keep live) w (restrictMem mem live) sh toks where
  known := hi.known
  known_role := hi.known_role
  fresh := hi.fresh
  memOk := fun d cells hd => by
    rw [look_restrictMem] at hd
    split at hd
    · rename_i hl
      obtain ⟨b, e1, e2, e3⟩ := hi.memOk d cells hd
      obtain ⟨hr, c, t, hh, hrel⟩ := e2
      exact ⟨b, by simp [Gh.keep, hl, e1], ⟨hr, c, t, hh, leaves_keep e3 hrel⟩, e3⟩
    · simp at hd
  pmOk := fun d b hd => by
    simp only [Gh.keep] at hd
    split at hd
    · rename_i hl; rw [look_restrictMem, if_pos hl]; exact hi.pmOk d b hd
    · simp at hd
  shOk := fun s cells hs => by
    obtain ⟨b, e1, e2, e3, e4⟩ := hi.shOk s cells hs
    obtain ⟨hr, o, hh, hrel⟩ := e2
    exact ⟨b, e1, ⟨hr, o, hh, hrel.to (fun _ _ _ h => h) (fun _ e => e) (fun _ r => leaves_keep (leafS_B e3) r)⟩, e3, e4⟩
  smOk := hi.smOk
  tokOk := fun τ n hn => by
    obtain ⟨t, e1, e2, e3⟩ := hi.tokOk τ n hn
    exact ⟨t, e1, e2, e3.cap, e3.zero, e3.spare⟩
  tkOk := hi.tkOk

theorem Evo.keep (live : List Nat) : Evo G w (G.keep live) w :=
  { size := Nat.le_refl _, os := rfl, tape := rfl, output := rfl, K := Know.le_refl G.K, sm := fun _ _ h => h, imm := fun _ _ h => ⟨h, rfl⟩, tokr := fun _ τ _ h => .inr ⟨τ, h⟩, Kimm := fun _ _ _ _ _ h => h }

theorem Sim.restrict {n0 N : Nat} {st : St} {a : Act} (h : Sim (num ns) n0 N G st a w) (live : List Nat) : Sim (num ns) n0 N (G.keep live) (restrict live st) a w :=
  ⟨⟨h.env.size, fun t x hx => by
    obtain ⟨h1, h2, _⟩ := look_restrictEnv hx
    obtain ⟨v, h3, h4⟩ := h.env.env t x h1
    exact ⟨v, h3, keep_rel h2 h4⟩⟩, h.inv.keep live, h.marks.evo (Evo.keep live) rfl⟩

end
end Go.Ab
