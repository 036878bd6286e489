import Derived.Test.YtejloknaphfbeaaGreatAbNorm2
/-
  Handing over to a callee and taking back.
-/
set_option linter.unusedVariables false
set_option linter.unusedSimpArgs false
namespace Go.Ab

section
variable {P : Program} {ns : Names} {G : Gh} {w : World}

theorem passC_flatO {x : AV} (h : passC x = true) : flatO x = true := by
  cases x with
  | own _ _ => rfl
  | _ => simpa [flatO, passC] using passB_flat (by simpa [passC] using h)

theorem passOL_flatO : ∀ {xs : List AV}, passOL xs = true → flatOL xs = true
  | [], _ => rfl
  | x :: xs, h => by
    simp only [passOL, Bool.and_eq_true] at h
    simp only [flatOL, passC_flatO h.1, passOL_flatO h.2, Bool.and_self]

theorem passO_head' {x : AV} (h : passO x = true) : headB x = true := by
  cases x with
  | own _ _ => rfl
  | lptr _ _ => rfl
  | agg cs => simp only [headB]; exact passOL_flatO (by simpa [passO] using h)
  | _ => simpa [headB, passO] using passB_flat (by simpa [passO] using h)

theorem normC_passC {old ts : Toks} {x : AV} (h : passC x = true) : passC (normC old ts x).1 = true := by
  unfold normC
  split
  · split <;> rfl
  · exact h

theorem normCs_pass : ∀ {xs : List AV} {old ts : Toks}, passOL xs = true → passOL (normCs old ts xs).1 = true
  | [], _, _, _ => rfl
  | x :: xs, old, ts, h => by
    simp only [passOL, Bool.and_eq_true] at h
    simp only [normCs, passOL, normC_passC h.1, Bool.true_and]
    exact normCs_pass h.2

theorem normV_passO {old ts : Toks} {x : AV} (h : passO x = true) : passO (normV old ts x).1 = true := by
  unfold normV
  split
  · split <;> rfl
  · rfl
  · split
    · exact h
    · simp only [passO] at h ⊢
      exact normCs_pass h
  · exact h

theorem normL_passO : ∀ {xs : List AV} {old ts : Toks}, xs.all passO = true → (normL old ts xs).1.all passO = true
  | [], _, _, _ => rfl
  | x :: xs, old, ts, h => by
    simp only [List.all_cons, Bool.and_eq_true] at h
    simp only [normL, List.all_cons, normV_passO h.1, Bool.true_and]
    exact normL_passO h.2

theorem leafB_passO {x : AV} (h : leafB x = true) : passO x = true := by
  cases x with
  | own _ _ => rfl
  | fn g cap => simpa [leafB, passO] using h
  | pv _ => rfl
  | clp _ => rfl
  | sptr _ _ => rfl
  | sarr _ _ _ _ => rfl
  | nilp => rfl
  | mref _ => rfl
  | mapc _ => rfl
  | _ => simp [leafB] at h

theorem leaves_passO {xs : List AV} (h : xs.all leafB = true) : xs.all passO = true := by
  rw [List.all_eq_true] at *
  exact fun x hx => leafB_passO (h x hx)

theorem normLh_sound : ∀ {xs : List AV} {vs : List Value} {old ts : Toks} {m : Nat → Option Nat} {tks : List Tk}, NS G old ts m tks → xs.all passO = true → RelAs (num ns) G xs vs →
    ∃ m' tks', Ren ns G m tks (normL old ts xs).2.1 (normL old ts xs).2.2 m' tks' ∧ RelAs (num ns) (G.ren m' tks') (normL old ts xs).1 vs
  | [], vs, old, ts, m, tks, hN, _, h => ⟨m, tks, ⟨hN, [], by simp [normL]⟩, by simpa only [normL, RelAs] using h⟩
  | x :: xs, vs, old, ts, m, tks, hN, hp, h => by
    simp only [List.all_cons, Bool.and_eq_true] at hp
    simp only [RelAs] at h
    obtain ⟨v, r, e, e1, e2⟩ := h
    subst e
    obtain ⟨m1, t1, g1, g2⟩ := normV_sound hN (passO_head' hp.1) e1
    obtain ⟨m2, t2, k1, k2⟩ := normLh_sound g1.ns' hp.2 e2
    refine ⟨m2, t2, ⟨k1.ns', ?_⟩, ?_⟩
    · obtain ⟨a, ha⟩ := g1.ext
      obtain ⟨b, hb⟩ := k1.ext
      exact ⟨a ++ b, by rw [hb, ha, List.append_assoc]⟩
    · simp only [normL, RelAs]
      exact ⟨v, r, rfl, g2.mono k1.le, k2⟩

theorem normC_len {old ts : Toks} {x : AV} : (normC old ts x).2.1.length = old.length := by
  unfold normC
  split
  · split <;> simp
  · rfl

theorem normCs_len : ∀ {xs : List AV} {old ts : Toks}, (normCs old ts xs).2.1.length = old.length
  | [], _, _ => rfl
  | x :: xs, old, ts => by simp only [normCs]; rw [normCs_len, normC_len]

theorem normV_len {old ts : Toks} {x : AV} : (normV old ts x).2.1.length = old.length := by
  unfold normV
  split
  · split <;> simp
  · rfl
  · split
    · rfl
    · exact normCs_len
  · rfl

theorem normL_len : ∀ {xs : List AV} {old ts : Toks}, (normL old ts xs).2.1.length = old.length
  | [], _, _ => rfl
  | x :: xs, old, ts => by simp only [normL]; rw [normL_len, normV_len]

theorem normS_len : ∀ {sh : Sh} {old ts : Toks}, (normS old ts sh).2.1.length = old.length
  | [], _, _ => rfl
  | none :: sh, old, ts => by simp only [normS]; exact normS_len
  | some cs :: sh, old, ts => by simp only [normS]; rw [normS_len, normL_len]

/-- What a callee sees. -/
def Gh.to (G : Gh) (m : Nat → Option Nat) (tks : List Tk) : Gh :=
  { K := G.K, role := fun b => match G.role b with | .shr s => .shr s | .tok τ => (match m τ with | some k => .tok k | none => .imm) | _ => .imm, pm := fun _ => none, sm := G.sm, tk := fun k => tks[k]? }

theorem to_shr {m : Nat → Option Nat} {tks : List Tk} {b s : Nat} (h : G.role b = .shr s) : (G.to m tks).role b = .shr s := by simp [Gh.to, h]
theorem to_tok {m : Nat → Option Nat} {tks : List Tk} {b τ k : Nat} (h : G.role b = .tok τ) (hm : m τ = some k) : (G.to m tks).role b = .tok k := by simp [Gh.to, h, hm]
theorem to_free {m : Nat → Option Nat} {tks : List Tk} {b τ : Nat} (h : G.role b = .tok τ) (hm : m τ = none) : (G.to m tks).role b = .imm := by simp [Gh.to, h, hm]
theorem to_imm {m : Nat → Option Nat} {tks : List Tk} {b : Nat} (h : G.role b = .imm) : (G.to m tks).role b = .imm := by simp [Gh.to, h]
theorem to_priv {m : Nat → Option Nat} {tks : List Tk} {b d : Nat} (h : G.role b = .priv d) : (G.to m tks).role b = .imm := by simp [Gh.to, h]

theorem passOL_rel {ρ : Nums} {G' : Gh} (hK : G.K.le G'.K) (hs : ∀ s b, G.sm s = some b → G'.sm s = some b) (ht : ∀ τ t, G.tk τ = some t → G'.tk τ = some t) {xs : List AV} {vs : List Value} (hp : passOL xs = true) (h : RelAs ρ G xs vs) : RelAs ρ G' xs vs :=
  flatOs_rel hK hs ht (passOL_flatO hp) h

theorem passO_rel {ρ : Nums} {G' : Gh} (hK : G.K.le G'.K) (hs : ∀ s b, G.sm s = some b → G'.sm s = some b) (ht : ∀ τ t, G.tk τ = some t → G'.tk τ = some t) {x : AV} {v : Value} (hp : passO x = true) (h : RelA ρ G x v) : RelA ρ G' x v := by
  cases x with
  | own l τ =>
    simp only [RelA] at h ⊢
    obtain ⟨t, e1, e2, e3, e4⟩ := h
    exact ⟨t, ht _ _ e1, e2, e3.mono hK, fun hl => ⟨(e4 hl).1, orR (e4 hl).2 fun ⟨b, o, e, r⟩ => ⟨b, o, e, Row.mono hK _ _ _ _ r⟩⟩⟩
  | agg cs =>
    simp only [RelA] at h ⊢
    obtain ⟨vs, e, r⟩ := h
    exact ⟨vs, e, passOL_rel hK hs ht (by simpa [passO] using hp) r⟩
  | _ => exact passB_rel hK hs (by simpa [passO] using hp) h

theorem passOs_rel {ρ : Nums} {G' : Gh} (hK : G.K.le G'.K) (hs : ∀ s b, G.sm s = some b → G'.sm s = some b) (ht : ∀ τ t, G.tk τ = some t → G'.tk τ = some t) : ∀ {xs : List AV} {vs : List Value}, xs.all passO = true → RelAs ρ G xs vs → RelAs ρ G' xs vs
  | [], _, _, h => by simpa only [RelAs] using h
  | x :: xs, _, hp, h => by
    simp only [List.all_cons, Bool.and_eq_true] at hp
    simp only [RelAs] at h ⊢
    obtain ⟨v, r, e, e1, e2⟩ := h
    exact ⟨v, r, e, passO_rel hK hs ht hp.1 e1, passOs_rel hK hs ht hp.2 e2⟩

/-- Handing over. -/
theorem Inv.give {mem : List (Nat × List AV)} {sh : Sh} {toks : Toks} (hi : Inv (num ns) G w mem sh toks) {xs : List AV} {vs : List Value} (hp : xs.all passO = true) (hr : RelAs (num ns) G xs vs) :
    ∃ m tks, NS G (giveN toks xs sh).2.2.1 (giveN toks xs sh).2.2.2 m tks ∧ Inv (num ns) (G.to m tks) w [] (giveN toks xs sh).2.1 (giveN toks xs sh).2.2.2 ∧ RelAs (num ns) (G.to m tks) (giveN toks xs sh).1 vs := by
  obtain ⟨m0, tks0, hR, hrel⟩ := normLh_sound (NS.start hi) hp hr
  obtain ⟨m, tks, q1, q2, q3⟩ := normS_sound (Go.Ab.shVals G w) hR.ns' hi.shVals
  have hN := q1.ns'
  refine ⟨m, tks, hN, ?_, passOs_rel (G := G.ren m tks) (G' := G.to m tks) (Know.le_refl _) (fun _ _ h => h) (fun _ _ h => h) (normL_passO hp) (RelAs.mono q1.le hrel)⟩
  constructor
  · exact hi.known
  · intro b o v hk
    rcases hi.known_role b o v hk with h | ⟨τ, h⟩
    · exact .inl (to_imm h)
    · cases hm : m τ with
      | none => exact .inl (to_free h hm)
      | some k => exact .inr ⟨k, to_tok h hm⟩
  · intro b hb; exact to_imm (hi.fresh b hb)
  · intro d cells h; simp [look] at h
  · intro d b h; simp [Gh.to] at h
  · refine hi.shNew (G' := G.to m tks) (fun _ => rfl) (fun b s hr => to_shr hr) fun s cells' hs => ?_
    obtain ⟨cells, h1, h2, h3, h4⟩ := q3 s cells' hs
    obtain ⟨o, h2, h2'⟩ := h2
    exact ⟨cells, h1, ⟨o, h2, h2'.to (fun _ _ _ h => h) (fun _ e => e) (fun _ r => passOs_rel (G := G.ren m tks) (G' := G.to m tks) (Know.le_refl _) (fun _ _ h => h) (fun _ _ h => h) (leaves_passO h3) r)⟩, h3, h4⟩
  · intro s b hs
    have := hi.smOk s b hs
    have e : (giveN toks xs sh).2.1.length = sh.length := q2
    omega
  · intro k n hn
    have hts : (giveN toks xs sh).2.2.2 = tks.map (·.len) := hN.ts
    rw [hts, List.getElem?_map, Option.map_eq_some_iff] at hn
    obtain ⟨t, ht, rfl⟩ := hn
    refine ⟨t, ht, rfl, ?_⟩
    rcases hN.cap k t ht with ⟨τ, hτ⟩ | hc
    · obtain ⟨t', h1, h2⟩ := hN.map τ k hτ
      rw [ht] at h2; cases h2
      obtain ⟨t'', e1, e2, e3⟩ := hi.tokOk τ _ (hi.tkOk τ t h1)
      rw [h1] at e1; cases e1
      refine ⟨e3.cap, e3.zero, fun hlt => ?_⟩
      obtain ⟨b, o, c, ty, f1, f2, f3, f4, f5⟩ := e3.spare hlt
      exact ⟨b, o, c, ty, f1, to_tok f2 hτ, f3, f4, f5⟩
    · exact ⟨by omega, fun h => by omega, fun h => by omega⟩
  · intro k t ht
    have hts : (giveN toks xs sh).2.2.2 = tks.map (·.len) := hN.ts
    rw [hts, List.getElem?_map]
    have ht' : tks[k]? = some t := ht
    rw [ht']; rfl

theorem giveN_len {toks : Toks} {xs : List AV} {sh : Sh} : (giveN toks xs sh).2.2.1.length = toks.length := by
  unfold giveN
  simp only [normS_len, normL_len]

theorem Evo.to {G1 : Gh} {w1 : World} (h : Evo G w G1 w1) (m : Nat → Option Nat) (tks : List Tk) : Evo G w (G1.to m tks) w1 where
  size := h.size
  os := h.os
  tape := h.tape
  output := h.output
  K := h.K
  sm := h.sm
  imm := fun b hb hr => ⟨to_imm (h.imm b hb hr).1, (h.imm b hb hr).2⟩
  tokr := fun b τ hb hr => by
    rcases h.tokr b τ hb hr with h1 | ⟨τ', h1⟩
    · exact .inl (to_imm h1)
    · cases hm : m τ' with
      | none => exact .inl (to_free h1 hm)
      | some k => exact .inr ⟨k, to_tok h1 hm⟩
  Kimm := h.Kimm

def shR (N : Nat) : Role → Role
  | .tok k => .tok (k + N)
  | .shr s => .shr s
  | _ => .imm

/-- The caller's ghost behind a call. -/
def Gh.back (G : Gh) (m : Nat → Option Nat) (G1 : Gh) (n N : Nat) : Gh :=
  { K := G1.K,
    role := fun b => if b < n then (match G.role b with | .shr _ => shR N (G1.role b) | .tok τ => (match m τ with | some _ => shR N (G1.role b) | none => .tok τ) | r => r) else shR N (G1.role b),
    pm := G.pm, sm := G1.sm,
    tk := fun τ => if τ < N then (match G.tk τ with | some t => (match m τ with | some _ => some { t with len := t.len + 1, cap := t.len + 1 } | none => some t) | none => none) else G1.tk (τ - N) }

theorem shiftC_rel {G1 G' : Gh} {N : Nat} (hK : G1.K.le G'.K) (hs : ∀ s b, G1.sm s = some b → G'.sm s = some b) (ht : ∀ τ t, G1.tk τ = some t → G'.tk (τ + N) = some t) {x : AV} {v : Value} (hp : passC x = true) (h : RelA (num ns) G1 x v) : RelA (num ns) G' (shiftC N x) v := by
  cases x with
  | own l τ =>
    simp only [shiftC, RelA] at h ⊢
    obtain ⟨t, e1, e2, e3, e4⟩ := h
    exact ⟨t, ht _ _ e1, e2, e3.mono hK, fun hl => ⟨(e4 hl).1, orR (e4 hl).2 fun ⟨b, o, e, r⟩ => ⟨b, o, e, Row.mono hK _ _ _ _ r⟩⟩⟩
  | _ =>
    simp only [shiftC]
    exact passB_rel (G := G1) (G' := G') hK hs (by simpa [passC] using hp) h

theorem shiftCs_rel {G1 G' : Gh} {N : Nat} (hK : G1.K.le G'.K) (hs : ∀ s b, G1.sm s = some b → G'.sm s = some b) (ht : ∀ τ t, G1.tk τ = some t → G'.tk (τ + N) = some t) : ∀ {xs : List AV} {vs : List Value}, passOL xs = true → RelAs (num ns) G1 xs vs → RelAs (num ns) G' (xs.map (shiftC N)) vs
  | [], _, _, h => by simpa only [List.map_nil, RelAs] using h
  | x :: xs, _, hp, h => by
    simp only [passOL, Bool.and_eq_true] at hp
    simp only [List.map_cons, RelAs] at h ⊢
    obtain ⟨v, r, e, e1, e2⟩ := h
    exact ⟨v, r, e, shiftC_rel hK hs ht hp.1 e1, shiftCs_rel hK hs ht hp.2 e2⟩

theorem shift_rel {G1 G' : Gh} {N : Nat} (hK : G1.K.le G'.K) (hs : ∀ s b, G1.sm s = some b → G'.sm s = some b) (ht : ∀ τ t, G1.tk τ = some t → G'.tk (τ + N) = some t) {x : AV} {v : Value} (hp : passO x = true) (h : RelA (num ns) G1 x v) : RelA (num ns) G' (shiftV N x) v := by
  cases x with
  | own l τ => exact shiftC_rel (x := .own l τ) hK hs ht rfl h
  | agg cs =>
    simp only [shiftV]
    split
    · rename_i hf
      exact flatB_rel (G := G1) (G' := G') hK hs (by simpa [flatB] using hf) h
    · simp only [RelA] at h ⊢
      obtain ⟨vs, e, r⟩ := h
      exact ⟨vs, e, shiftCs_rel hK hs ht (by simpa [passO] using hp) r⟩
  | _ =>
    simp only [shiftV]
    exact passB_rel (G := G1) (G' := G') hK hs (by simpa [passO] using hp) h

theorem shifts_rel {G1 G' : Gh} {N : Nat} (hK : G1.K.le G'.K) (hs : ∀ s b, G1.sm s = some b → G'.sm s = some b) (ht : ∀ τ t, G1.tk τ = some t → G'.tk (τ + N) = some t) : ∀ {xs : List AV} {vs : List Value}, xs.all passO = true → RelAs (num ns) G1 xs vs → RelAs (num ns) G' (xs.map (shiftV N)) vs
  | [], _, _, h => by simpa only [List.map_nil, RelAs] using h
  | x :: xs, _, hp, h => by
    simp only [List.all_cons, Bool.and_eq_true] at hp
    simp only [List.map_cons, RelAs] at h ⊢
    obtain ⟨v, r, e, e1, e2⟩ := h
    exact ⟨v, r, e, shift_rel hK hs ht hp.1 e1, shifts_rel hK hs ht hp.2 e2⟩

theorem back_tk {m : Nat → Option Nat} {G1 : Gh} {n N : Nat} : ∀ τ t, G1.tk τ = some t → (G.back m G1 n N).tk (τ + N) = some t := by
  intro τ t h
  simp only [Gh.back]
  rw [if_neg (by omega), Nat.add_sub_cancel]
  exact h

theorem back_rel {m : Nat → Option Nat} {G1 : Gh} {n N : Nat} {x : AV} {v : Value} (hp : passO x = true) (h : RelA (num ns) G1 x v) : RelA (num ns) (G.back m G1 n N) (shiftV N x) v :=
  shift_rel (G1 := G1) (G' := G.back m G1 n N) (N := N) (Know.le_refl G1.K) (fun _ _ h => h) back_tk hp h

theorem backs_rel {m : Nat → Option Nat} {G1 : Gh} {n N : Nat} {xs : List AV} {vs : List Value} (hp : xs.all passO = true) (h : RelAs (num ns) G1 xs vs) : RelAs (num ns) (G.back m G1 n N) (xs.map (shiftV N)) vs :=
  shifts_rel (G1 := G1) (G' := G.back m G1 n N) (N := N) (Know.le_refl G1.K) (fun _ _ h => h) back_tk hp h

theorem shiftC_refs {N n : Nat} {x : AV} (h : refsLt n x = true) : refsLt n (shiftC N x) = true := by
  cases x with
  | own _ _ => rfl
  | _ => exact h

theorem shiftCs_refs {N n : Nat} : ∀ {xs : List AV}, refsLt.refsLtL n xs = true → refsLt.refsLtL n (xs.map (shiftC N)) = true
  | [], _ => rfl
  | x :: xs, h => by
    simp only [refsLt.refsLtL, Bool.and_eq_true] at h
    simp only [List.map_cons, refsLt.refsLtL, shiftC_refs h.1, shiftCs_refs h.2, Bool.and_self]

theorem shiftV_refs {N n : Nat} {x : AV} (h : refsLt n x = true) : refsLt n (shiftV N x) = true := by
  cases x with
  | own _ _ => rfl
  | agg cs =>
    simp only [shiftV]
    split
    · exact h
    · simp only [refsLt] at h ⊢
      exact shiftCs_refs h
  | _ => exact h

theorem shiftV_leaf {N : Nat} {x : AV} (h : leafB x = true) : leafB (shiftV N x) = true := by
  cases x with
  | own _ _ => rfl
  | agg _ => simp [leafB] at h
  | _ => exact h

theorem Inv.back {G1 : Gh} {w1 : World} {mem : List (Nat × List AV)} {sh sh' : Sh} {toks old ts ts' : Toks} {m : Nat → Option Nat} {tks : List Tk} (hi : Inv (num ns) G w mem sh toks) (hN : NS G old ts m tks) (hol : old.length = toks.length)
    (h1 : Inv (num ns) G1 w1 [] sh' ts') (he : Evo (G.to m tks) w G1 w1) :
    Inv (num ns) (G.back m G1 w.heap.size toks.length) w1 mem (shiftS toks.length sh') (old ++ ts') ∧ G.le (G.back m G1 w.heap.size toks.length) ∧ Evo G w (G.back m G1 w.heap.size toks.length) w1 := by
  have htl : ∀ τ t, G.tk τ = some t → τ < toks.length := fun τ t h => (List.getElem?_eq_some_iff.1 (hi.tkOk τ t h)).1
  -- tokens
  have tkNone : ∀ τ t, G.tk τ = some t → m τ = none → (G.back m G1 w.heap.size toks.length).tk τ = some t := by
    intro τ t h hm
    simp only [Gh.back, if_pos (htl τ t h), h, hm]
  have tkSome : ∀ τ t k, G.tk τ = some t → m τ = some k → (G.back m G1 w.heap.size toks.length).tk τ = some { t with len := t.len + 1, cap := t.len + 1 } := by
    intro τ t k h hm
    simp only [Gh.back, if_pos (htl τ t h), h, hm]
  have hle : G.le (G.back m G1 w.heap.size toks.length) := ⟨he.K, fun _ _ h => h, he.sm, fun τ t h => by
    cases hm : m τ with
    | none => exact ⟨t, tkNone τ t h hm, Nat.le_refl _, fun _ => rfl⟩
    | some k => exact ⟨_, tkSome τ t k h hm, by simp, fun e => by simp at e⟩⟩
  -- roles
  have rImm : ∀ b, b < w.heap.size → G.role b = .imm → (G.back m G1 w.heap.size toks.length).role b = .imm := by intro b hb hr; simp only [Gh.back, if_pos hb, hr]
  have rPriv : ∀ b d, b < w.heap.size → G.role b = .priv d → (G.back m G1 w.heap.size toks.length).role b = .priv d := by intro b d hb hr; simp only [Gh.back, if_pos hb, hr]
  have rFree : ∀ b τ, b < w.heap.size → G.role b = .tok τ → m τ = none → (G.back m G1 w.heap.size toks.length).role b = .tok τ := by intro b τ hb hr hm; simp only [Gh.back, if_pos hb, hr, hm]
  have rTok : ∀ b τ k, b < w.heap.size → G.role b = .tok τ → m τ = some k → (G.back m G1 w.heap.size toks.length).role b = shR toks.length (G1.role b) := by intro b τ k hb hr hm; simp only [Gh.back, if_pos hb, hr, hm]
  have rShr : ∀ b s, b < w.heap.size → G.role b = .shr s → (G.back m G1 w.heap.size toks.length).role b = shR toks.length (G1.role b) := by intro b s hb hr; simp only [Gh.back, if_pos hb, hr]
  have rNew : ∀ b, ¬ b < w.heap.size → (G.back m G1 w.heap.size toks.length).role b = shR toks.length (G1.role b) := by intro b hb; simp only [Gh.back, if_neg hb]
  -- what the callee's role says
  have rOut : ∀ b, G1.role b ≠ .imm → (G.back m G1 w.heap.size toks.length).role b = shR toks.length (G1.role b) := by
    intro b hn
    by_cases hb : b < w.heap.size
    · cases hr : G.role b with
      | shr s => exact rShr b s hb hr
      | imm => exact absurd (he.imm b hb (to_imm hr)).1 hn
      | priv d => exact absurd (he.imm b hb (to_priv hr)).1 hn
      | tok τ =>
        cases hm : m τ with
        | none => exact absurd (he.imm b hb (to_free hr hm)).1 hn
        | some k => exact rTok b τ k hb hr hm
    · exact rNew b hb
  have shKnown : ∀ b o v, G1.K b o = some v → shR toks.length (G1.role b) = .imm ∨ ∃ τ, shR toks.length (G1.role b) = .tok τ := by
    intro b o v hk
    rcases h1.known_role b o v hk with h | ⟨τ, h⟩
    · left; rw [h]; rfl
    · right; exact ⟨τ + toks.length, by rw [h]; rfl⟩
  refine ⟨⟨h1.known, ?_, ?_, ?_, hi.pmOk, ?_, ?_, ?_, ?_⟩, hle, ?_⟩
  · intro b o v hk
    have hk1 : G1.K b o = some v := hk
    by_cases hb : b < w.heap.size
    · cases hr : G.role b with
      | shr s => rw [rShr b s hb hr]; exact shKnown b o v hk1
      | imm => exact .inl (rImm b hb hr)
      | tok τ =>
        cases hm : m τ with
        | none => exact .inr ⟨τ, rFree b τ hb hr hm⟩
        | some k => rw [rTok b τ k hb hr hm]; exact shKnown b o v hk1
      | priv d =>
        exfalso
        have hk0 : G.K b o = some v := he.Kimm b o v hb (to_priv hr) hk1
        rcases hi.known_role b o v hk0 with h | ⟨τ, h⟩ <;> rw [hr] at h <;> simp at h
    · rw [rNew b hb]; exact shKnown b o v hk1
  · intro b hb
    have := he.size
    rw [rNew b (by omega), h1.fresh b hb]; rfl
  · intro d cs hd
    obtain ⟨b, e1, e2, e3⟩ := hi.memOk d cs hd
    obtain ⟨hr, c, t, hh, hrel⟩ := e2
    have hb := lt_of_heap hh
    exact ⟨b, e1, ⟨rPriv b d hb hr, c, t, ((he.imm b hb (to_priv hr)).2).trans hh, RelAs.mono hle hrel⟩, e3⟩
  · intro s cs0 hs0
    simp only [shiftS, List.getElem?_map, Option.map_eq_some_iff] at hs0
    obtain ⟨o, hs, ho⟩ := hs0
    cases o with
    | none => simp at ho
    | some cs =>
      simp at ho
      subst ho
      obtain ⟨b, e1, e2, e3, e4⟩ := h1.shOk s cs hs
      obtain ⟨hr, o, hh, hrel⟩ := e2
      refine ⟨b, e1, ⟨?_, o, hh, hrel.to (fun _ _ _ h => h) (fun kvs e => by subst e; rfl) (fun _ r => backs_rel (leaves_passO e3) r)⟩, ?_, ?_⟩
      · rw [rOut b.1 (by rw [hr]; simp), hr]; rfl
      · rw [List.all_eq_true]
        intro x hx
        obtain ⟨y, hy, rfl⟩ := List.mem_map.1 hx
        exact shiftV_leaf (List.all_eq_true.1 e3 y hy)
      · rw [List.all_eq_true]
        intro x hx
        obtain ⟨y, hy, rfl⟩ := List.mem_map.1 hx
        exact shiftV_refs (List.all_eq_true.1 e4 y hy)
  · intro s b h
    have := h1.smOk s b h
    simp only [shiftS, List.length_map]
    exact this
  · intro τ n hn
    by_cases hτ : τ < toks.length
    · rw [List.getElem?_append_left (by omega)] at hn
      obtain ⟨t, e1, e2, e3⟩ := hi.tokOk τ _ (List.getElem?_eq_getElem hτ)
      cases hm : m τ with
      | none =>
        have := hN.free τ t e1 hm
        rw [hn] at this
        simp at this
        refine ⟨t, tkNone τ t e1 hm, this.symm, e3.cap, e3.zero, fun hlt => ?_⟩
        obtain ⟨b, o, c, ty, f1, f2, f3, f4, f5⟩ := e3.spare hlt
        have hb := lt_of_heap f3
        exact ⟨b, o, c, ty, f1, rFree b τ hb f2 hm, ((he.imm b hb (to_free f2 hm)).2).trans f3, f4, fun j v hk => f5 j v (he.Kimm b j v hb (to_free f2 hm) hk)⟩
      | some k =>
        have := hN.used τ t k e1 hm
        rw [hn] at this
        simp at this
        exact ⟨_, tkSome τ t k e1 hm, this.symm, ⟨Nat.le_refl _, fun h => by simp at h, fun h => by simp at h⟩⟩
    · rw [List.getElem?_append_right (by omega), hol] at hn
      obtain ⟨t, e1, e2, e3⟩ := h1.tokOk _ n hn
      refine ⟨t, by simp only [Gh.back, if_neg hτ]; exact e1, e2, e3.cap, e3.zero, fun hlt => ?_⟩
      obtain ⟨b, o, c, ty, f1, f2, f3, f4, f5⟩ := e3.spare hlt
      refine ⟨b, o, c, ty, f1, ?_, f3, f4, f5⟩
      rw [rOut b (by rw [f2]; simp), f2]
      simp only [shR]
      rw [Nat.sub_add_cancel (by omega)]
  · intro τ t ht
    simp only [Gh.back] at ht
    split at ht
    · rename_i hτ
      rw [List.getElem?_append_left (by omega)]
      split at ht
      · rename_i t0 h0
        split at ht
        · rename_i k hm
          simp at ht; subst ht
          exact hN.used τ t0 k h0 hm
        · rename_i hm
          simp at ht; subst ht
          exact hN.free τ t0 h0 hm
      · simp at ht
    · rename_i hτ
      rw [List.getElem?_append_right (by omega), hol]
      exact h1.tkOk _ t ht
  · exact { size := he.size, os := he.os, tape := he.tape, output := he.output, K := he.K, sm := he.sm,
            imm := fun b hb hr => ⟨rImm b hb hr, (he.imm b hb (to_imm hr)).2⟩
            tokr := fun b τ hb hr => by
              cases hm : m τ with
              | none => exact .inr ⟨τ, rFree b τ hb hr hm⟩
              | some k =>
                rw [rTok b τ k hb hr hm]
                rcases he.tokr b k hb (to_tok hr hm) with h | ⟨τ', h⟩
                · left; rw [h]; rfl
                · right; exact ⟨τ' + toks.length, by rw [h]; rfl⟩
            Kimm := fun b o v hb hr hk => he.Kimm b o v hb (to_imm hr) hk }

theorem shiftRes_rel {G1 G' : Gh} {N : Nat} (hK : G1.K.le G'.K) (hs : ∀ s b, G1.sm s = some b → G'.sm s = some b) (ht : ∀ τ t, G1.tk τ = some t → G'.tk (τ + N) = some t) {rs : List AV} {v : Value} (hp : rs.all passO = true) (h : RelResA (num ns) G1 rs v) : RelResA (num ns) G' (rs.map (shiftV N)) v := by
  unfold RelResA at h
  split at h
  · rename_i r
    simp only [List.all_cons, List.all_nil, Bool.and_true] at hp
    simp only [List.map_cons, List.map_nil, RelResA]
    exact shift_rel hK hs ht hp h
  · rename_i hn
    obtain ⟨vs, e, h⟩ := h
    unfold RelResA
    split
    · rename_i r he
      cases rs with
      | nil => simp at he
      | cons a rs =>
        cases rs with
        | nil => exact absurd rfl (hn a)
        | cons _ _ => simp at he
    · exact ⟨vs, e, shifts_rel hK hs ht hp h⟩

theorem backRes_rel {m : Nat → Option Nat} {G1 : Gh} {n N : Nat} {rs : List AV} {v : Value} (hp : rs.all passO = true) (h : RelResA (num ns) G1 rs v) : RelResA (num ns) (G.back m G1 n N) (rs.map (shiftV N)) v :=
  shiftRes_rel (G1 := G1) (G' := G.back m G1 n N) (N := N) (Know.le_refl G1.K) (fun _ _ h => h) back_tk hp h

/-! ### A call that sees no shared memory -/

def shQ (N : Nat) : Role → Role
  | .tok k => .tok (k + N)
  | _ => .imm

/-- What such a callee sees. -/
def Gh.hid (G : Gh) : Gh := { K := G.K, role := fun _ => .imm, pm := fun _ => none, sm := fun _ => none, tk := fun _ => none }

theorem Inv.hid {mem : List (Nat × List AV)} {sh : Sh} {toks : Toks} (hi : Inv (num ns) G w mem sh toks) : Inv (num ns) G.hid w [] [] [] where
  known := hi.known
  known_role := fun _ _ _ _ => .inl rfl
  fresh := fun _ _ => rfl
  memOk := fun d c h => by simp [look] at h
  pmOk := fun d b h => by simp [Gh.hid] at h
  shOk := fun s c h => by simp at h
  smOk := fun s b h => by simp [Gh.hid] at h
  tokOk := fun τ n h => by simp at h
  tkOk := fun τ t h => by simp [Gh.hid] at h

/-- The caller's ghost behind it. -/
def Gh.backQ (G : Gh) (G1 : Gh) (n N : Nat) : Gh :=
  { K := G1.K, role := fun b => if b < n then G.role b else shQ N (G1.role b), pm := G.pm, sm := G.sm, tk := fun τ => if τ < N then G.tk τ else G1.tk (τ - N) }

theorem Inv.backQ {G1 : Gh} {w1 : World} {mem : List (Nat × List AV)} {sh : Sh} {toks ts' : Toks} (hi : Inv (num ns) G w mem sh toks)
    (h1 : Inv (num ns) G1 w1 [] [] ts') (he : Evo G.hid w G1 w1) :
    Inv (num ns) (G.backQ G1 w.heap.size toks.length) w1 mem sh (toks ++ ts') ∧ G.le (G.backQ G1 w.heap.size toks.length) ∧ Evo G w (G.backQ G1 w.heap.size toks.length) w1 := by
  have htl : ∀ τ t, G.tk τ = some t → τ < toks.length := fun τ t h => (List.getElem?_eq_some_iff.1 (hi.tkOk τ t h)).1
  have hK : G.K.le G1.K := he.K
  have rOld : ∀ b, b < w.heap.size → (G.backQ G1 w.heap.size toks.length).role b = G.role b := fun b hb => by simp only [Gh.backQ, if_pos hb]
  have rNew : ∀ b, ¬ b < w.heap.size → (G.backQ G1 w.heap.size toks.length).role b = shQ toks.length (G1.role b) := fun b hb => by simp only [Gh.backQ, if_neg hb]
  have same : ∀ b, b < w.heap.size → w1.heap[b]? = w.heap[b]? := fun b hb => (he.imm b hb rfl).2
  have Kold : ∀ b o v, b < w.heap.size → G1.K b o = some v → G.K b o = some v := fun b o v hb hk => he.Kimm b o v hb rfl hk
  have hle : G.le (G.backQ G1 w.heap.size toks.length) := ⟨hK, fun _ _ h => h, fun _ _ h => h, fun τ t h => ⟨t, by simp only [Gh.backQ, if_pos (htl τ t h)]; exact h, Nat.le_refl _, fun _ => rfl⟩⟩
  refine ⟨⟨h1.known, ?_, ?_, ?_, hi.pmOk, ?_, hi.smOk, ?_, ?_⟩, hle, ?_⟩
  · intro b o v hk
    by_cases hb : b < w.heap.size
    · rw [rOld b hb]; exact hi.known_role b o v (Kold b o v hb hk)
    · rw [rNew b hb]
      rcases h1.known_role b o v hk with h | ⟨τ, h⟩
      · left; rw [h]; rfl
      · right; exact ⟨τ + toks.length, by rw [h]; rfl⟩
  · intro b hb
    have := he.size
    rw [rNew b (by omega), h1.fresh b hb]; rfl
  · intro d cs hd
    obtain ⟨b, e1, e2, e3⟩ := hi.memOk d cs hd
    have hlt : b < w.heap.size := by obtain ⟨_, _, _, hh, _⟩ := e2; exact lt_of_heap hh
    exact ⟨b, e1, e2.mono hle (rOld b hlt) (same b hlt), e3⟩
  · intro s cs hs
    obtain ⟨b, e1, e2, e3⟩ := hi.shOk s cs hs
    have hlt : b.1 < w.heap.size := e2.lt
    exact ⟨b, e1, e2.mono hle (rOld b.1 hlt) (same b.1 hlt), e3⟩
  · intro τ n hn
    by_cases hτ : τ < toks.length
    · rw [List.getElem?_append_left hτ] at hn
      obtain ⟨t, e1, e2, e3⟩ := hi.tokOk τ n hn
      refine ⟨t, by simp only [Gh.backQ, if_pos hτ]; exact e1, e2, e3.cap, e3.zero, fun hlt => ?_⟩
      obtain ⟨b, o, c, ty, f1, f2, f3, f4, f5⟩ := e3.spare hlt
      have hlt' := lt_of_heap f3
      exact ⟨b, o, c, ty, f1, (rOld b hlt').trans f2, (same b hlt').trans f3, f4, fun j v hkk => f5 j v (Kold b j v hlt' hkk)⟩
    · rw [List.getElem?_append_right (by omega)] at hn
      obtain ⟨t, e1, e2, e3⟩ := h1.tokOk _ n hn
      refine ⟨t, by simp only [Gh.backQ, if_neg hτ]; exact e1, e2, e3.cap, e3.zero, fun hlt => ?_⟩
      obtain ⟨b, o, c, ty, f1, f2, f3, f4, f5⟩ := e3.spare hlt
      have hb : ¬ b < w.heap.size := fun hb => by
        have := (he.imm b hb rfl).1
        rw [f2] at this; cases this
      refine ⟨b, o, c, ty, f1, ?_, f3, f4, f5⟩
      rw [rNew b hb, f2]
      simp only [shQ]
      rw [Nat.sub_add_cancel (by omega)]
  · intro τ t ht
    simp only [Gh.backQ] at ht
    split at ht
    · rename_i hτ
      rw [List.getElem?_append_left hτ]
      exact hi.tkOk τ t ht
    · rename_i hτ
      rw [List.getElem?_append_right (by omega)]
      exact h1.tkOk _ t ht
  · exact { size := he.size, os := he.os, tape := he.tape, output := he.output, K := hK, sm := fun _ _ h => h,
            imm := fun b hb hr => ⟨(rOld b hb).trans hr, same b hb⟩
            tokr := fun b τ hb hr => .inr ⟨τ, (rOld b hb).trans hr⟩
            Kimm := fun b o v hb _ hk => Kold b o v hb hk }

theorem backQ_rel {G1 : Gh} {w1 : World} {ts' : Toks} {n N : Nat} (h1 : Inv (num ns) G1 w1 [] [] ts') {rs : List AV} {v : Value} (hp : rs.all passO = true) (h : RelResA (num ns) G1 rs v) : RelResA (num ns) (G.backQ G1 n N) (rs.map (shiftV N)) v :=
  shiftRes_rel (G1 := G1) (G' := G.backQ G1 n N) (N := N) (Know.le_refl G1.K) (fun s b h => by have := h1.smOk s b h; simp at this) (fun τ t h => by simp only [Gh.backQ]; rw [if_neg (by omega), Nat.add_sub_cancel]; exact h) hp h

end
end Go.Ab
