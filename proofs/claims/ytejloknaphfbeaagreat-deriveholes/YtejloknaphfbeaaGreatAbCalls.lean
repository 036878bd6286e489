import Derived.Test.YtejloknaphfbeaaGreatAbOps12
/-
  Calls: the contracts of the callees, and what they give the caller.
-/
set_option linter.unusedVariables false
set_option linter.unusedSimpArgs false
namespace Go.Ab

section
variable {P : Program} {ns : Names} {G : Gh} {w : World}

def KOk (K : Know) (w : World) : Prop := ∀ b o v, K b o = some v → w.cell? ⟨b, o, none⟩ = some v

/-- A result: one value, or several. -/
def RelRes (K : Know) (rs : List PV) (v : Value) : Prop :=
  match rs with
  | [r] => Rel K r v
  | rs => ∃ vs : List Value, v = .tuple vs.toArray ∧ RelL K rs vs

def RelResA (ρ : Nums) (G : Gh) (rs : List AV) (v : Value) : Prop :=
  match rs with
  | [r] => RelA ρ G r v
  | rs => ∃ vs : List Value, v = .tuple vs.toArray ∧ RelAs ρ G rs vs

/-- The contract of a function for pure data. -/
def PureC (P : Program) (f : FuncId) (pvs rs : List PV) : Prop :=
  ∀ (K : Know) (w : World) (vs : List Value), KOk K w → RelL K pvs vs →
    Calls P f vs.toArray w fun e w' => ∃ v K', e = .returned v ∧ RelRes K' rs v ∧ K.le K' ∧ (∀ b o u, b < w.heap.size → K' b o = some u → K b o = some u) ∧ KOk K' w' ∧ RowKit.Below w.heap.size w w'

/-- The contract of a function called with the shared memory. -/
def ImpC (P : Program) (ns : Names) (f : FuncId) (args : List AV) (ts : Toks) (rs : List AV) (sh sh' : Sh) (ts' : Toks) : Prop :=
  ∀ (G : Gh) (w : World) (vs : List Value), Inv (num ns) G w [] sh ts → RelAs (num ns) G args vs →
    Calls P f vs.toArray w fun e w' => ∃ v G', e = .returned v ∧ RelResA (num ns) G' rs v ∧ Inv (num ns) G' w' [] sh' ts' ∧ Evo G w G' w'

/-- The contract of slices.Clone: its argument appended to an empty slice. -/
def CloneC (P : Program) (ns : Names) (f sz bytes : Nat) : Prop :=
  ∀ (G : Gh) (w : World) (mem : List (Nat × List AV)) (sh : Sh) (toks toks' : Toks) (x y : AV) (v : Value), Inv (num ns) G w mem sh toks → RelA (num ns) G x v → execAppend sz bytes (.clp []) x toks = some (y, toks') →
    Calls P f #[v] w fun e w' => ∃ u G', e = .returned u ∧ RelA (num ns) G' y u ∧ Inv (num ns) G' w' mem sh toks' ∧ G.le G' ∧ Evo G w G' w'

structure OrcOk (P : Program) (ns : Names) (orc : Orc) : Prop where
  p : ∀ g f pvs rs, ns.of f = some g → orc.p g pvs = some rs → PureC P f pvs rs
  i : ∀ g f args ts rs sh sh' ts', ns.of f = some g → args.all passO = true → orc.i g args sh ts = some (rs, sh', ts') → ImpC P ns f args ts rs sh sh' ts' ∧ rs.all passO = true
  c : ∀ g sz bytes f, look ns.cl g = some (sz, bytes) → ns.of f = some g → CloneC P ns f sz bytes

/-- The functions that bear lasting numbers have bodies. -/
def Bodies (P : Program) (ns : Names) : Prop := ∀ f g, ns.of f = some g → ∃ fn b, P.funcs[f]? = some fn ∧ fn.body = some b ∧ fn.name ≠ "runtime.NumGoroutine"

theorem callFunc_run {f : FuncId} {g : Nat} (hB : Bodies P ns) (hf : ns.of f = some g) (args : Array Value) : (callFunc f args).run P w = .ok (.enter f args) w := by
  obtain ⟨fn, b, h1, h2, h3⟩ := hB f g hf
  simp [callFunc, h1, h2, h3]

/-! ### Relations that do not hang on what is private -/

mutual
theorem passB_rel {ρ : Nums} {G' : Gh} (hK : G.K.le G'.K) (hs : ∀ s b, G.sm s = some b → G'.sm s = some b) : ∀ {x : AV} {v : Value}, passB x = true → RelA ρ G x v → RelA ρ G' x v
  | .pv p, _, _, h => by simp only [RelA] at h ⊢; exact h.mono hK
  | .sptr s o, _, _, h => by simp only [RelA] at h ⊢; obtain ⟨b, e, r⟩ := h; exact ⟨b, hs _ _ e, r⟩
  | .sarr s _ n _, _, _, h => by simp only [RelA] at h ⊢; obtain ⟨b, c, e, r⟩ := h; exact ⟨b, c, hs _ _ e, r⟩
  | .nilp, _, _, h => by simpa only [RelA] using h
  | .mref s, _, _, h => by simp only [RelA] at h ⊢; obtain ⟨b, e, r⟩ := h; exact ⟨b, hs _ _ e, r⟩
  | .ssub .., _, hp, _ => by simp [passB] at hp
  | .mapc _, _, _, h => by simp only [RelA] at h
  | .fn g cap, _, hp, h => by
    simp only [passB] at hp
    simp only [RelA] at h ⊢
    obtain ⟨f, vs, e1, e2, r⟩ := h
    exact ⟨f, vs, e1, e2, passL_rel hK hs hp r⟩
  | .un, _, hp, _ => by simp [passB] at hp
  | .clp _, _, _, h => by simp only [RelA] at h ⊢; obtain ⟨b, l, e, r⟩ := h; exact ⟨b, l, e, r.mono hK⟩
  | .own _ _, _, hp, _ => by simp [passB] at hp
  | .agg _, _, hp, h => by
    simp only [passB] at hp
    simp only [RelA] at h ⊢
    obtain ⟨vs, e, r⟩ := h
    exact ⟨vs, e, passL_rel hK hs hp r⟩
  | .tup _, _, hp, _ => by simp [passB] at hp
  | .lptr _ _, _, hp, _ => by simp [passB] at hp
  | .eptr _, _, hp, _ => by simp [passB] at hp
theorem passL_rel {ρ : Nums} {G' : Gh} (hK : G.K.le G'.K) (hs : ∀ s b, G.sm s = some b → G'.sm s = some b) : ∀ {xs : List AV} {vs : List Value}, passB.passL xs = true → RelAs ρ G xs vs → RelAs ρ G' xs vs
  | [], _, _, h => by simpa only [RelAs] using h
  | x :: xs, _, hp, h => by
    simp only [passB.passL, Bool.and_eq_true] at hp
    simp only [RelAs] at h ⊢
    obtain ⟨v, r, e, e1, e2⟩ := h
    exact ⟨v, r, e, passB_rel hK hs hp.1 e1, passL_rel hK hs hp.2 e2⟩
end

theorem passAll {xs : List AV} (h : xs.all passB = true) : passB.passL xs = true := by
  induction xs with
  | nil => rfl
  | cons x xs ih => simp only [List.all_cons, Bool.and_eq_true] at h; simp [passB.passL, h.1, ih h.2]

/-- Behind a call for pure data. -/
theorem Inv.pure {K' : Know} {w1 : World} {mem : List (Nat × List AV)} {sh : Sh} {toks : Toks} (hi : Inv (num ns) G w mem sh toks) (hK : G.K.le K') (hold : ∀ b o u, b < w.heap.size → K' b o = some u → G.K b o = some u)
    (hk : KOk K' w1) (hb : RowKit.Below w.heap.size w w1) : Inv (num ns) { G with K := K' } w1 mem sh toks ∧ G.le { G with K := K' } ∧ Evo G w { G with K := K' } w1 := by
  have hle : G.le { G with K := K' } := ⟨hK, fun _ _ h => h, fun _ _ h => h, fun _ t h => ⟨t, h, Nat.le_refl _, fun _ => rfl⟩⟩
  refine ⟨⟨hk, ?_, ?_, ?_, hi.pmOk, ?_, hi.smOk, ?_, hi.tkOk⟩, hle, ?_⟩
  · intro b o v hkk
    by_cases h : b < w.heap.size
    · exact hi.known_role b o v (hold b o v h hkk)
    · exact .inl (hi.fresh b (by omega))
  · intro b h; have := hb.size; exact hi.fresh b (by omega)
  · intro d cs hd
    obtain ⟨b, e1, e2, e3⟩ := hi.memOk d cs hd
    have hlt : b < w.heap.size := by obtain ⟨_, _, _, hh, _⟩ := e2; exact lt_of_heap hh
    exact ⟨b, e1, e2.mono hle rfl (hb.block b hlt), e3⟩
  · intro s cs hs
    obtain ⟨b, e1, e2, e3⟩ := hi.shOk s cs hs
    have hlt : b.1 < w.heap.size := e2.lt
    exact ⟨b, e1, e2.mono hle rfl (hb.block b.1 hlt), e3⟩
  · intro τ n hn
    obtain ⟨t, e1, e2, e3⟩ := hi.tokOk τ n hn
    refine ⟨t, e1, e2, e3.cap, e3.zero, fun hlt => ?_⟩
    obtain ⟨b, o, c, ty, f1, f2, f3, f4, f5⟩ := e3.spare hlt
    have hlt' := lt_of_heap f3
    exact ⟨b, o, c, ty, f1, f2, (hb.block b hlt').trans f3, f4, fun j v hkk => f5 j v (hold b j v hlt' hkk)⟩
  · exact { size := hb.size, os := hb.os, tape := hb.tape, output := hb.output, K := hK, sm := fun _ _ h => h,
            imm := fun b h hr => ⟨hr, hb.block b h⟩, tokr := fun b τ _ hr => .inr ⟨τ, hr⟩, Kimm := fun b o v h _ hkk => hold b o v h hkk }

end
end Go.Ab
