import Derived.Test.YtejloknaphfbeaaGreatAbNorm
/-
  Tokens named anew.
-/
set_option linter.unusedVariables false
set_option linter.unusedSimpArgs false
namespace Go.Ab

section
variable {ns : Names} {G : Gh} {w : World}

structure NS (G : Gh) (old ts : Toks) (m : Nat → Option Nat) (tks : List Tk) : Prop where
  ts : ts = tks.map (·.len)
  map : ∀ τ k, m τ = some k → ∃ t, G.tk τ = some t ∧ tks[k]? = some t
  inj : ∀ τ σ k, m τ = some k → m σ = some k → τ = σ
  free : ∀ τ t, G.tk τ = some t → m τ = none → old[τ]? = some t.len
  used : ∀ τ t k, G.tk τ = some t → m τ = some k → old[τ]? = some (t.len + 1)
  cap : ∀ k t, tks[k]? = some t → (∃ τ, m τ = some k) ∨ t.cap = t.len

def Gh.ren (G : Gh) (m : Nat → Option Nat) (tks : List Tk) : Gh :=
  { G with tk := fun k => tks[k]?, role := fun b => match G.role b with | .tok τ => (match m τ with | some k => .tok k | none => .imm) | r => r }

theorem ren_le {m m' : Nat → Option Nat} {tks ext : List Tk} : (G.ren m tks).le (G.ren m' (tks ++ ext)) where
  K := Know.le_refl G.K
  pm := fun _ _ h => h
  sm := fun _ _ h => h
  tk := fun k t h => ⟨t, by
    simp only [Gh.ren] at h ⊢
    rw [List.getElem?_append_left (List.getElem?_eq_some_iff.1 h).1]; exact h, Nat.le_refl _, fun _ => rfl⟩

theorem ren_flat {ρ : Nums} {m : Nat → Option Nat} {tks : List Tk} {x : AV} {v : Value} (hf : flatB x = true) (h : RelA ρ G x v) : RelA ρ (G.ren m tks) x v :=
  flatB_rel (G := G) (G' := G.ren m tks) (Know.le_refl G.K) (fun _ _ h => h) hf h

theorem ren_role_tok {m : Nat → Option Nat} {tks : List Tk} {b τ : Nat} (h : G.role b = .tok τ) : (G.ren m tks).role b = match m τ with | some k => .tok k | none => .imm := by
  show (match G.role b with | .tok τ => (match m τ with | some k => Role.tok k | none => .imm) | r => r) = _
  rw [h]

/-- May stand at the head of a loop. -/
def headB : AV → Bool
  | .lptr .. | .own .. => true
  | .agg cs => flatOL cs
  | v => flatB v

/-- Names for the ghosts before and behind. -/
structure Ren (ns : Names) (G : Gh) (m : Nat → Option Nat) (tks : List Tk) (old' ts' : Toks) (m' : Nat → Option Nat) (tks' : List Tk) : Prop where
  ns' : NS G old' ts' m' tks'
  ext : ∃ ext, tks' = tks ++ ext

theorem Ren.le {m m' : Nat → Option Nat} {tks tks' : List Tk} {old' ts' : Toks} (h : Ren ns G m tks old' ts' m' tks') : (G.ren m tks).le (G.ren m' tks') := by
  obtain ⟨ext, e⟩ := h.ext
  subst e
  exact ren_le

theorem normC_sound {old ts : Toks} {m : Nat → Option Nat} {tks : List Tk} (hN : NS G old ts m tks) {x : AV} {v : Value} (hx : flatO x = true) (h : RelA (num ns) G x v) :
    ∃ m' tks', Ren ns G m tks (normC old ts x).2.1 (normC old ts x).2.2 m' tks' ∧ RelA (num ns) (G.ren m' tks') (normC old ts x).1 v := by
  have flat : flatB x = true → normC old ts x = (x, old, ts) → ∃ m' tks', Ren ns G m tks (normC old ts x).2.1 (normC old ts x).2.2 m' tks' ∧ RelA (num ns) (G.ren m' tks') (normC old ts x).1 v := by
    intro hf e
    rw [e]
    exact ⟨m, tks, ⟨hN, [], by simp⟩, ren_flat hf h⟩
  cases x with
  | own l τ =>
    simp only [RelA] at h
    obtain ⟨t, e1, e2, e3, e4⟩ := h
    simp only [normC]
    split
    · rename_i ho
      -- the token has not been taken yet
      have hm : m τ = none := by
        cases hm : m τ with
        | none => rfl
        | some k =>
          have := hN.used τ t k e1 hm
          rw [ho] at this
          simp at this
          omega
      have hlen : l.length = t.len := by
        have := hN.free τ t e1 hm
        rw [ho] at this
        simpa using this
      have hk : ts.length = tks.length := by rw [hN.ts]; simp
      refine ⟨fun σ => if σ = τ then some tks.length else m σ, tks ++ [t], ⟨⟨?_, ?_, ?_, ?_, ?_, ?_⟩, [t], rfl⟩, ?_⟩
      · rw [hN.ts, hlen]; simp
      · intro σ k hk'
        split at hk'
        · rename_i e; subst e; simp at hk'; subst hk'; exact ⟨t, e1, by simp⟩
        · obtain ⟨t', g1, g2⟩ := hN.map σ k hk'
          exact ⟨t', g1, by rw [List.getElem?_append_left (List.getElem?_eq_some_iff.1 g2).1]; exact g2⟩
      · intro σ σ' k h1 h2
        split at h1
        · rename_i e; subst e
          split at h2
          · rename_i e'; exact e'.symm
          · simp at h1; subst h1
            obtain ⟨t', _, g2⟩ := hN.map σ' _ h2
            have := (List.getElem?_eq_some_iff.1 g2).1
            omega
        · split at h2
          · rename_i e'; subst e'
            simp at h2; subst h2
            obtain ⟨t', _, g2⟩ := hN.map σ _ h1
            have := (List.getElem?_eq_some_iff.1 g2).1
            omega
          · exact hN.inj σ σ' k h1 h2
      · intro σ t' h1 h2
        split at h2
        · simp at h2
        · rename_i e
          rw [List.getElem?_set, if_neg (fun e' => e e'.symm)]
          exact hN.free σ t' h1 h2
      · intro σ t' k h1 h2
        split at h2
        · rename_i e; subst e
          rw [e1] at h1; cases h1
          rw [List.getElem?_set, if_pos rfl, if_pos (List.getElem?_eq_some_iff.1 ho).1, hlen]
        · rename_i e
          rw [List.getElem?_set, if_neg (fun e' => e e'.symm)]
          exact hN.used σ t' k h1 h2
      · intro k t' hk'
        rw [List.getElem?_append] at hk'
        split at hk'
        · rcases hN.cap k t' hk' with ⟨σ, hσ⟩ | hc
          · left
            refine ⟨σ, ?_⟩
            rw [if_neg]
            · exact hσ
            · rintro rfl; rw [hm] at hσ; simp at hσ
          · exact .inr hc
        · rename_i hge
          left
          refine ⟨τ, ?_⟩
          have : k = tks.length := by
            have := (List.getElem?_eq_some_iff.1 hk').1
            simp at this; omega
          simp [this]
      · simp only [RelA]
        refine ⟨t, by simp [Gh.ren, hk], by omega, e3, fun _ => e4 hlen⟩
    · exact ⟨m, tks, ⟨hN, [], by simp⟩, by simp only [RelA]; exact e3⟩
  | _ => exact flat (by simpa [flatO] using hx) rfl

theorem normCs_sound : ∀ {xs : List AV} {vs : List Value} {old ts : Toks} {m : Nat → Option Nat} {tks : List Tk}, NS G old ts m tks → flatOL xs = true → RelAs (num ns) G xs vs →
    ∃ m' tks', Ren ns G m tks (normCs old ts xs).2.1 (normCs old ts xs).2.2 m' tks' ∧ RelAs (num ns) (G.ren m' tks') (normCs old ts xs).1 vs
  | [], vs, old, ts, m, tks, hN, _, h => ⟨m, tks, ⟨hN, [], by simp⟩, by simpa only [normCs, RelAs] using h⟩
  | x :: xs, vs, old, ts, m, tks, hN, hl, h => by
    simp only [flatOL, Bool.and_eq_true] at hl
    simp only [RelAs] at h
    obtain ⟨v, r, e, e1, e2⟩ := h
    subst e
    obtain ⟨m1, t1, g1, g2⟩ := normC_sound hN hl.1 e1
    obtain ⟨m2, t2, k1, k2⟩ := normCs_sound g1.ns' hl.2 e2
    refine ⟨m2, t2, ⟨k1.ns', ?_⟩, ?_⟩
    · obtain ⟨a, ha⟩ := g1.ext
      obtain ⟨b, hb⟩ := k1.ext
      exact ⟨a ++ b, by rw [hb, ha, List.append_assoc]⟩
    · simp only [normCs, RelAs]
      exact ⟨v, r, rfl, g2.mono k1.le, k2⟩

theorem normV_sound {old ts : Toks} {m : Nat → Option Nat} {tks : List Tk} (hN : NS G old ts m tks) {x : AV} {v : Value} (hx : headB x = true) (h : RelA (num ns) G x v) :
    ∃ m' tks', Ren ns G m tks (normV old ts x).2.1 (normV old ts x).2.2 m' tks' ∧ RelA (num ns) (G.ren m' tks') (normV old ts x).1 v := by
  have flat : flatB x = true → normV old ts x = (x, old, ts) → ∃ m' tks', Ren ns G m tks (normV old ts x).2.1 (normV old ts x).2.2 m' tks' ∧ RelA (num ns) (G.ren m' tks') (normV old ts x).1 v := by
    intro hf e
    rw [e]
    exact ⟨m, tks, ⟨hN, [], by simp⟩, ren_flat hf h⟩
  cases x with
  | own l τ => exact normC_sound (x := .own l τ) hN rfl h
  | clp l =>
    simp only [RelA] at h
    obtain ⟨base, len, rfl, hsl⟩ := h
    have hk : ts.length = tks.length := by rw [hN.ts]; simp
    have hlen := hsl.1
    -- the stride of the row
    obtain ⟨sz, hrow⟩ : ∃ sz, l = [] ∨ ∃ b o, base = some ⟨b, o, none⟩ ∧ Row G.K b o sz l := by
      rcases hsl.2 with h1 | ⟨b, o, sz, e, hr⟩
      · exact ⟨0, .inl h1⟩
      · exact ⟨sz, .inr ⟨b, o, e, hr⟩⟩
    let t : Tk := ⟨base, len, len, sz⟩
    refine ⟨m, tks ++ [t], ⟨⟨?_, ?_, hN.inj, hN.free, hN.used, ?_⟩, [t], rfl⟩, ?_⟩
    · simp only [normV]; rw [hN.ts]; simp [t, hlen]
    · intro σ k hk'
      obtain ⟨t', g1, g2⟩ := hN.map σ k hk'
      exact ⟨t', g1, by rw [List.getElem?_append_left (List.getElem?_eq_some_iff.1 g2).1]; exact g2⟩
    · intro k t' hk'
      rw [List.getElem?_append] at hk'
      split at hk'
      · exact hN.cap k t' hk'
      · right
        have : t' = t := by
          have h1 := List.mem_of_getElem? hk'
          simpa using h1
        rw [this]
    · simp only [normV, RelA]
      refine ⟨t, by simp [Gh.ren, hk], by simp [t, hlen], rel_lst.2 ⟨_, _, _, rfl, Nat.le_refl _, hsl⟩, fun _ => ⟨rfl, hrow⟩⟩
  | lptr d o =>
    simp only [normV]
    exact ⟨m, tks, ⟨hN, [], by simp⟩, by simp only [RelA] at h ⊢; exact h⟩
  | pv p => exact flat rfl rfl
  | un => exact flat rfl rfl
  | sptr _ _ => exact flat rfl rfl
  | sarr _ _ _ _ => exact flat rfl rfl
  | eptr _ => exact flat rfl rfl
  | nilp => exact flat rfl rfl
  | fn _ _ => exact flat (by simpa [headB] using hx) rfl
  | agg cs =>
    by_cases hf : flatB.flatL cs = true
    · exact flat (by simpa [flatB] using hf) (by simp only [normV]; rw [if_pos hf])
    · simp only [RelA] at h
      obtain ⟨vs, rfl, r⟩ := h
      obtain ⟨m', tks', g1, g2⟩ := normCs_sound hN (by simpa [headB] using hx) r
      have e : normV old ts (.agg cs) = (.agg (normCs old ts cs).1, (normCs old ts cs).2.1, (normCs old ts cs).2.2) := by simp only [normV]; rw [if_neg hf]
      rw [e]
      exact ⟨m', tks', g1, by simp only [RelA]; exact ⟨vs, rfl, g2⟩⟩
  | tup _ => exact flat (by simpa [headB] using hx) rfl
  | mref _ => exact flat rfl rfl
  | ssub _ _ _ => exact flat rfl rfl
  | mapc _ => simp only [RelA] at h

theorem leafB_head {x : AV} (h : leafB x = true) : headB x = true := by
  rcases leafB_flat h with hf | ⟨l, τ, rfl⟩
  · cases x <;> simp_all [headB, flatB, leafB]
  · rfl

theorem normV_leaf {old ts : Toks} {x : AV} (h : leafB x = true) : leafB (normV old ts x).1 = true := by
  cases x with
  | own l τ => simp only [normV]; split <;> rfl
  | clp l => rfl
  | agg _ => simp [leafB] at h
  | _ => exact h

theorem normL_sound : ∀ {xs : List AV} {vs : List Value} {old ts : Toks} {m : Nat → Option Nat} {tks : List Tk}, NS G old ts m tks → xs.all leafB = true → RelAs (num ns) G xs vs →
    ∃ m' tks', Ren ns G m tks (normL old ts xs).2.1 (normL old ts xs).2.2 m' tks' ∧ RelAs (num ns) (G.ren m' tks') (normL old ts xs).1 vs ∧ (normL old ts xs).1.all leafB = true
  | [], vs, old, ts, m, tks, hN, _, h => ⟨m, tks, ⟨hN, [], by simp⟩, by simpa only [normL, RelAs] using h, rfl⟩
  | x :: xs, vs, old, ts, m, tks, hN, hl, h => by
    simp only [List.all_cons, Bool.and_eq_true] at hl
    simp only [RelAs] at h
    obtain ⟨v, r, e, e1, e2⟩ := h
    subst e
    obtain ⟨m1, t1, g1, g2⟩ := normV_sound hN (leafB_head hl.1) e1
    obtain ⟨m2, t2, k1, k2, k3⟩ := normL_sound g1.ns' hl.2 e2
    refine ⟨m2, t2, ⟨k1.ns', ?_⟩, ?_, ?_⟩
    · obtain ⟨a, ha⟩ := g1.ext
      obtain ⟨b, hb⟩ := k1.ext
      exact ⟨a ++ b, by rw [hb, ha, List.append_assoc]⟩
    · simp only [normL, RelAs]
      exact ⟨v, r, rfl, g2.mono k1.le, k2⟩
    · simp only [normL, List.all_cons, k3, Bool.and_true]
      exact normV_leaf hl.1

theorem normE_sound {a : Act} : ∀ {env : List (Nat × AV)} {old ts : Toks} {m : Nat → Option Nat} {tks : List Tk}, NS G old ts m tks →
    (∀ p ∈ env, headB p.2 = true ∧ ∃ v, a.tmps[p.1]? = some v ∧ RelA (num ns) G p.2 v) →
    ∃ m' tks', Ren ns G m tks (normE old ts env).2.1 (normE old ts env).2.2 m' tks' ∧ ∀ p ∈ (normE old ts env).1, ∃ v, a.tmps[p.1]? = some v ∧ RelA (num ns) (G.ren m' tks') p.2 v
  | [], old, ts, m, tks, hN, _ => ⟨m, tks, ⟨hN, [], by simp⟩, by simp [normE]⟩
  | (t, x) :: env, old, ts, m, tks, hN, h => by
    obtain ⟨hx, v, hv, hr⟩ := h (t, x) (by simp)
    obtain ⟨m1, t1, g1, g2⟩ := normV_sound hN hx hr
    obtain ⟨m2, t2, k1, k2⟩ := normE_sound (env := env) (a := a) g1.ns' (fun p hp => h p (by simp [hp]))
    refine ⟨m2, t2, ⟨k1.ns', ?_⟩, ?_⟩
    · obtain ⟨a, ha⟩ := g1.ext
      obtain ⟨b, hb⟩ := k1.ext
      exact ⟨a ++ b, by rw [hb, ha, List.append_assoc]⟩
    · intro p hp
      simp only [normE, List.mem_cons] at hp
      rcases hp with rfl | hp
      · exact ⟨v, hv, g2.mono k1.le⟩
      · exact k2 p hp

/-- A private box, whatever its role is called. -/
def PBlk (ns : Names) (G : Gh) (w : World) (d : Nat) (cells : List AV) (G' : Gh) : Prop :=
  ∃ b c t, G.pm d = some b ∧ G.role b = .priv d ∧ w.heap[b]? = some (.cells c t (0, 0)) ∧ RelAs (num ns) G' cells c.toList ∧ cells.all leafB = true

theorem normM_sound : ∀ {mem : List (Nat × List AV)} {old ts : Toks} {m : Nat → Option Nat} {tks : List Tk}, NS G old ts m tks →
    (∀ p ∈ mem, PBlk ns G w p.1 p.2 G) →
    ∃ m' tks', Ren ns G m tks (normM old ts mem).2.1 (normM old ts mem).2.2 m' tks' ∧ ∀ p ∈ (normM old ts mem).1, PBlk ns G w p.1 p.2 (G.ren m' tks')
  | [], old, ts, m, tks, hN, _ => ⟨m, tks, ⟨hN, [], by simp⟩, by simp [normM]⟩
  | (d, cells) :: mem, old, ts, m, tks, hN, h => by
    obtain ⟨b, c, t, h1, h2, h3, h4, h5⟩ := h (d, cells) (by simp)
    obtain ⟨m1, t1, g1, g2, g3⟩ := normL_sound hN h5 h4
    obtain ⟨m2, t2, k1, k2⟩ := normM_sound (mem := mem) g1.ns' (fun p hp => h p (by simp [hp]))
    refine ⟨m2, t2, ⟨k1.ns', ?_⟩, ?_⟩
    · obtain ⟨a, ha⟩ := g1.ext
      obtain ⟨b, hb⟩ := k1.ext
      exact ⟨a ++ b, by rw [hb, ha, List.append_assoc]⟩
    · intro p hp
      simp only [normM, List.mem_cons] at hp
      rcases hp with rfl | hp
      · exact ⟨b, c, t, h1, h2, h3, RelAs.mono k1.le g2, g3⟩
      · exact k2 p hp

theorem normC_refs {old ts : Toks} {n : Nat} {x : AV} (h : refsLt n x = true) : refsLt n (normC old ts x).1 = true := by
  unfold normC
  split
  · split <;> simp [refsLt]
  · exact h

theorem normCs_refs {n : Nat} : ∀ {xs : List AV} {old ts : Toks}, refsLt.refsLtL n xs = true → refsLt.refsLtL n (normCs old ts xs).1 = true
  | [], _, _, _ => rfl
  | x :: xs, old, ts, h => by
    simp only [refsLt.refsLtL, Bool.and_eq_true] at h
    simp only [normCs, refsLt.refsLtL, normC_refs h.1, Bool.true_and]
    exact normCs_refs h.2

theorem normV_refs {old ts : Toks} {n : Nat} {x : AV} (h : refsLt n x = true) : refsLt n (normV old ts x).1 = true := by
  unfold normV
  split
  · split <;> simp [refsLt]
  · simp [refsLt]
  · split
    · exact h
    · simp only [refsLt] at h ⊢
      exact normCs_refs h
  · exact h

theorem normL_refs {n : Nat} : ∀ {xs : List AV} {old ts : Toks}, xs.all (refsLt n) = true → (normL old ts xs).1.all (refsLt n) = true
  | [], _, _, _ => rfl
  | x :: xs, old, ts, h => by
    simp only [List.all_cons, Bool.and_eq_true] at h
    simp only [normL, List.all_cons, normV_refs h.1, Bool.true_and]
    exact normL_refs h.2

theorem normS_sound : ∀ {sh : Sh} {old ts : Toks} {m : Nat → Option Nat} {tks : List Tk} (R : Nat → Option (Obj × Nat)), NS G old ts m tks →
    (∀ s cells, sh[s]? = some (some cells) → cells.all leafB = true ∧ ∃ o, R s = some o ∧ Holds (num ns) G o.1 o.2 cells) →
    ∃ m' tks', Ren ns G m tks (normS old ts sh).2.1 (normS old ts sh).2.2 m' tks' ∧ (normS old ts sh).1.length = sh.length ∧
      ∀ s cells', (normS old ts sh).1[s]? = some (some cells') → ∃ cells, sh[s]? = some (some cells) ∧ (∃ o, R s = some o ∧ Holds (num ns) (G.ren m' tks') o.1 o.2 cells') ∧ cells'.all leafB = true ∧ ∀ n, cells.all (refsLt n) = true → cells'.all (refsLt n) = true
  | [], old, ts, m, tks, R, hN, _ => ⟨m, tks, ⟨hN, [], by simp⟩, rfl, fun s cells' h => by simp [normS] at h⟩
  | none :: sh, old, ts, m, tks, R, hN, h => by
    obtain ⟨m1, t1, g1, g2, g3⟩ := normS_sound (sh := sh) (fun s => R (s + 1)) hN (fun s cells hs => h (s + 1) cells (by simpa using hs))
    refine ⟨m1, t1, g1, by simp [normS, g2], fun s cells' hs => ?_⟩
    cases s with
    | zero => simp [normS] at hs
    | succ s =>
      obtain ⟨cells, k1, k2⟩ := g3 s cells' (by simpa [normS] using hs)
      exact ⟨cells, by simpa using k1, k2⟩
  | some cs :: sh, old, ts, m, tks, R, hN, h => by
    obtain ⟨hl, o, hR, hr⟩ := h 0 cs rfl
    obtain ⟨m1, t1, g1, g2, g3⟩ : ∃ m' tks', Ren ns G m tks (normL old ts cs).2.1 (normL old ts cs).2.2 m' tks' ∧ Holds (num ns) (G.ren m' tks') o.1 o.2 (normL old ts cs).1 ∧ (normL old ts cs).1.all leafB = true := by
      rcases hr with ⟨c, t, vs, suf, ho, e3, e4, hr⟩ | ⟨es, clock, kvs, ho, rfl, hm⟩
      · obtain ⟨m1, t1, g1, g2, g3⟩ := normL_sound hN hl hr
        exact ⟨m1, t1, g1, .inl ⟨c, t, vs, suf, ho, e3, e4, g2⟩, g3⟩
      · exact ⟨m, tks, ⟨hN, [], by simp⟩, .inr ⟨es, clock, kvs, ho, rfl, hm⟩, rfl⟩
    obtain ⟨m2, t2, k1, k2, k3⟩ := normS_sound (sh := sh) (fun s => R (s + 1)) g1.ns' (fun s cells hs => h (s + 1) cells (by simpa using hs))
    refine ⟨m2, t2, ⟨k1.ns', ?_⟩, by simp [normS, k2], fun s cells' hs => ?_⟩
    · obtain ⟨a, ha⟩ := g1.ext
      obtain ⟨b, hb⟩ := k1.ext
      exact ⟨a ++ b, by rw [hb, ha, List.append_assoc]⟩
    · cases s with
      | zero =>
        simp only [normS, List.getElem?_cons_zero, Option.some.injEq] at hs
        subst hs
        exact ⟨cs, rfl, ⟨o, hR, g2.mono k1.le⟩, g3, fun n hn => normL_refs hn⟩
      | succ s =>
        obtain ⟨cells, q1, q2⟩ := k3 s cells' (by simpa [normS] using hs)
        exact ⟨cells, by simpa using q1, q2⟩

/-- What lies in shared box s. -/
def shVals (G : Gh) (w : World) (s : Nat) : Option (Obj × Nat) := (G.sm s).bind fun b => (w.heap[b.1]?).map fun o => (o, b.2)

theorem Inv.shVals {mem : List (Nat × List AV)} {sh : Sh} {toks : Toks} (hi : Inv (num ns) G w mem sh toks) : ∀ s cells, sh[s]? = some (some cells) → cells.all leafB = true ∧ ∃ o, Go.Ab.shVals G w s = some o ∧ Holds (num ns) G o.1 o.2 cells := by
  intro s cells hs
  obtain ⟨b, e1, e2, e3, e4⟩ := hi.shOk s cells hs
  obtain ⟨hr, o, hh, hrel⟩ := e2
  exact ⟨e3, (o, b.2), by simp [Go.Ab.shVals, e1, hh], hrel⟩

/-- Shared boxes behind new names. -/
theorem Inv.shNew {mem : List (Nat × List AV)} {sh : Sh} {toks : Toks} (hi : Inv (num ns) G w mem sh toks) {sh' : Sh} {G' : Gh} (hsm : ∀ s, G'.sm s = G.sm s) (hrole : ∀ b s, G.role b = .shr s → G'.role b = .shr s)
    (h : ∀ s cells', sh'[s]? = some (some cells') → ∃ cells, sh[s]? = some (some cells) ∧ (∃ o, Go.Ab.shVals G w s = some o ∧ Holds (num ns) G' o.1 o.2 cells') ∧ cells'.all leafB = true ∧ ∀ n, cells.all (refsLt n) = true → cells'.all (refsLt n) = true) :
    ∀ s cells, sh'[s]? = some (some cells) → ∃ b, G'.sm s = some b ∧ SBlk (num ns) G' w b (.shr s) cells ∧ cells.all leafS = true ∧ cells.all (refsLt (s + 1)) = true := by
  intro s cells' hs
  obtain ⟨cells, h1, ⟨o, h2, h2'⟩, h3, h4⟩ := h s cells' hs
  obtain ⟨b, e1, e2, e3, e4⟩ := hi.shOk s cells h1
  simp only [Go.Ab.shVals, e1, Option.bind_some, Option.map_eq_some_iff] at h2
  obtain ⟨o', h5, rfl⟩ := h2
  exact ⟨b, by rw [hsm]; exact e1, ⟨hrole b.1 s e2.role, o', h5, h2'⟩, h3, h4 _ e4⟩

theorem look_mem {α : Type} : ∀ {l : List (Nat × α)} {t : Nat} {x : α}, look l t = some x → (t, x) ∈ l
  | [], _, _, h => by simp [look] at h
  | (s, y) :: l, t, x, h => by
    simp only [look] at h
    split at h
    · rename_i e; subst e; cases h; simp
    · exact List.mem_cons_of_mem _ (look_mem h)

theorem look_normM : ∀ {mem : List (Nat × List AV)} {old ts : Toks} {d : Nat}, (look mem d).isSome = true → (look (normM old ts mem).1 d).isSome = true
  | [], _, _, d, h => by simp [look] at h
  | (s, y) :: mem, old, ts, d, h => by
    simp only [normM, look] at h ⊢
    split
    · rfl
    · rename_i hne
      rw [if_neg hne] at h
      exact look_normM h

theorem NS.start {mem : List (Nat × List AV)} {sh : Sh} {toks : Toks} (hi : Inv (num ns) G w mem sh toks) : NS G toks [] (fun _ => none) [] where
  ts := rfl
  map := by intro τ k h; simp at h
  inj := by intro τ σ k h; simp at h
  free := fun τ t h _ => hi.tkOk τ t h
  used := by intro τ t k _ h; simp at h
  cap := by intro k t h; simp at h

theorem restrictEnv_mem {live : List Nat} {env : List (Nat × AV)} : ∀ {l : List Nat} {p : Nat × AV}, p ∈ restrictEnv live env l → look env p.1 = some p.2 ∧ keepB live p.2 = true
  | [], p, h => by simp [restrictEnv] at h
  | s :: l, p, h => by
    simp only [restrictEnv] at h
    split at h
    · rename_i u hu
      split at h
      · rename_i hk
        simp only [List.mem_cons] at h
        rcases h with rfl | h
        · exact ⟨hu, hk⟩
        · exact restrictEnv_mem h
      · exact restrictEnv_mem h
    · exact restrictEnv_mem h

theorem restrictMem_mem {mem : List (Nat × List AV)} : ∀ {l : List Nat} {p : Nat × List AV}, p ∈ restrictMem mem l → look mem p.1 = some p.2 ∧ p.1 ∈ l
  | [], p, h => by simp [restrictMem] at h
  | s :: l, p, h => by
    simp only [restrictMem] at h
    split at h
    · rename_i u hu
      simp only [List.mem_cons] at h
      rcases h with rfl | h
      · exact ⟨hu, by simp⟩
      · obtain ⟨h1, h2⟩ := restrictMem_mem h; exact ⟨h1, by simp [h2]⟩
    · obtain ⟨h1, h2⟩ := restrictMem_mem h; exact ⟨h1, by simp [h2]⟩

/-- **The head of a loop.** -/
theorem Sim.head {n0 N : Nat} {st : St} {a : Act} (h : Sim (num ns) n0 N G st a w) (live : List Nat) : ∃ G', Sim (num ns) n0 N G' (norm (Go.Ab.restrict live st)) a w ∧ Evo G w G' w := by
  have h0 := h.restrict live
  have hi := h0.inv
  have hE : ∀ p ∈ (Go.Ab.restrict live st).env, headB p.2 = true ∧ ∃ v, a.tmps[p.1]? = some v ∧ RelA (num ns) (G.keep live) p.2 v := by
    intro p hp
    obtain ⟨h1, h2⟩ := restrictEnv_mem hp
    obtain ⟨v, h3, h4⟩ := h.env.env p.1 p.2 h1
    refine ⟨?_, v, h3, keep_rel h2 h4⟩
    cases hpx : p.2 <;> rw [hpx] at h2 <;> simp_all [headB, keepB, flatB]
  have hM : ∀ p ∈ (Go.Ab.restrict live st).mem, PBlk ns (G.keep live) w p.1 p.2 (G.keep live) := by
    intro p hp
    obtain ⟨h1, h2⟩ := restrictMem_mem hp
    have h3 : look (Go.Ab.restrict live st).mem p.1 = some p.2 := by
      show look (restrictMem st.mem live) p.1 = some p.2
      rw [look_restrictMem, if_pos h2, h1]
    obtain ⟨b, e1, e2, e3⟩ := hi.memOk p.1 p.2 h3
    obtain ⟨hr, c, t, hh, hrel⟩ := e2
    exact ⟨b, c, t, e1, hr, hh, hrel, e3⟩
  obtain ⟨m1, t1, g1, g2⟩ := normE_sound (NS.start hi) hE
  obtain ⟨m3, t3, k1, k2⟩ := normM_sound (w := w) g1.ns' hM
  obtain ⟨m2, t2, q1, q2, q3⟩ := normS_sound (shVals (G.keep live) w) k1.ns' hi.shVals
  have hN := q1.ns'
  have hle3 := q1.le
  have hle := Gh.le_trans k1.le q1.le
  have hrole : ∀ b r, (G.keep live).role b = r → (∀ τ, r ≠ .tok τ) → ((G.keep live).ren m2 t2).role b = r := by
    intro b r hr hn
    show (match (G.keep live).role b with | .tok τ => (match m2 τ with | some k => Role.tok k | none => .imm) | r => r) = r
    rw [hr]
    cases r with
    | tok τ => exact absurd rfl (hn τ)
    | _ => rfl
  have hevo : Evo G w ((G.keep live).ren m2 t2) w := {
    size := Nat.le_refl _, os := rfl, tape := rfl, output := rfl, K := Know.le_refl G.K, sm := fun _ _ h => h,
    imm := fun b _ hr => ⟨hrole b _ hr (by simp), rfl⟩
    tokr := fun b τ _ hr => by
      have hr' : (G.keep live).role b = .tok τ := hr
      rw [ren_role_tok hr']
      cases m2 τ with
      | none => exact .inl rfl
      | some k => exact .inr ⟨k, rfl⟩
    Kimm := fun _ _ _ _ _ h => h }
  refine ⟨(G.keep live).ren m2 t2, ⟨⟨h.env.size, fun t x hx => ?_⟩, ?_, h.marks.evo hevo rfl⟩, hevo⟩
  · obtain ⟨v, h1, h2⟩ := g2 (t, x) (look_mem hx)
    exact ⟨v, h1, h2.mono hle⟩
  · constructor
    · exact hi.known
    · intro b o v hk
      rcases hi.known_role b o v hk with h1 | ⟨τ, h1⟩
      · exact .inl (hrole b _ h1 (by simp))
      · rw [ren_role_tok h1]
        cases m2 τ with
        | none => exact .inl rfl
        | some k => exact .inr ⟨k, rfl⟩
    · intro b hb; exact hrole b _ (hi.fresh b hb) (by simp)
    · intro d cells hd
      obtain ⟨b, c, t, h1, h2, h3, h4, h5⟩ := k2 (d, cells) (look_mem hd)
      exact ⟨b, h1, ⟨hrole b _ h2 (by simp), c, t, h3, RelAs.mono hle3 h4⟩, h5⟩
    · intro d b hd
      exact look_normM (hi.pmOk d b hd)
    · exact hi.shNew (G' := (G.keep live).ren m2 t2) (fun _ => rfl) (fun b s hr => hrole b _ hr (by simp)) q3
    · intro s b hs
      have := hi.smOk s b hs
      have e : (norm (Go.Ab.restrict live st)).sh.length = (Go.Ab.restrict live st).sh.length := q2
      omega
    · intro k n hn
      have hts : (norm (Go.Ab.restrict live st)).toks = t2.map (·.len) := hN.ts
      rw [hts, List.getElem?_map, Option.map_eq_some_iff] at hn
      obtain ⟨t, ht, rfl⟩ := hn
      refine ⟨t, ht, rfl, ?_⟩
      rcases hN.cap k t ht with ⟨τ, hτ⟩ | hc
      · obtain ⟨t', h1, h2⟩ := hN.map τ k hτ
        rw [ht] at h2; cases h2
        obtain ⟨t'', e1, e2, e3⟩ := hi.tokOk τ _ (hi.tkOk τ t h1)
        rw [h1] at e1; cases e1
        refine ⟨e3.cap, e3.zero, fun hlt => ?_⟩
        obtain ⟨b, o, c, ty, f1, f2, f3, f4, f5⟩ := e3.spare hlt
        refine ⟨b, o, c, ty, f1, ?_, f3, f4, f5⟩
        rw [ren_role_tok f2, hτ]
      · exact ⟨by omega, fun h => by omega, fun h => by omega⟩
    · intro k t ht
      have hts : (norm (Go.Ab.restrict live st)).toks = t2.map (·.len) := hN.ts
      rw [hts, List.getElem?_map]
      have ht' : t2[k]? = some t := ht
      rw [ht']; rfl

end
end Go.Ab
