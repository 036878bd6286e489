import Derived.Test.YtejloknaphfbeaaGreatAbControl
import Derived.Test.YtejloknaphfbeaaGreatAbClone
import Derived.RangeFuncLeaves
import Derived.RangeFuncRecord
/-
  Functions: n levels of calls of the evaluator are what the model does.
-/
set_option linter.unusedVariables false
set_option linter.unusedSimpArgs false
namespace Go.Ab

section
variable {P : Program} {ns : Names} {G : Gh} {w : World}

theorem look_enter : ∀ {l : List AV} {i t : Nat} {v : AV}, look (enterEnv i l) t = some v → i ≤ t ∧ l[t - i]? = some v
  | [], i, t, v, h => by simp [enterEnv, look] at h
  | x :: l, i, t, v, h => by
    simp only [enterEnv, look] at h
    split at h
    · rename_i e; subst e; cases h; simp
    · rename_i hne
      obtain ⟨h1, h2⟩ := look_enter h
      refine ⟨by omega, ?_⟩
      rw [show t - i = (t - (i + 1)) + 1 from by omega]
      simpa using h2

theorem enter_ok {N : Nat} {args : List AV} {vs : List Value} (hr : RelAs (num ns) G args vs) (hN : args.length ≤ N) :
    EnvOk (num ns) G N (enterEnv 0 args) { tmps := vs.toArray ++ Array.replicate (N - vs.toArray.size) undef, defers := [] } := by
  have hl := hr.length
  refine ⟨by simp; omega, fun t x hx => ?_⟩
  obtain ⟨_, h2⟩ := look_enter hx
  simp only [Nat.sub_zero] at h2
  obtain ⟨v, h3, h4⟩ := hr.get h2
  refine ⟨v, ?_, h4⟩
  rw [Array.getElem?_append_left (by have := (List.getElem?_eq_some_iff.1 h3).1; simpa using this)]
  simpa using h3

theorem results_run {n0 N : Nat} {st : St} {a : Act} (hs : Sim (num ns) n0 N G st a w) {F : ResultVar → Sem Value} (hF1 : ∀ t, F (.tmp t) = pure (a.tmps.getD t undef)) (hF2 : ∀ ad t, F (.cell ad t) = (do loadVar t (← asAddr (a.tmps.getD ad undef)))) : ∀ {rvs : List ResultVar} {rs : List ARes} {xs : List AV}, mapO (compR P) rvs = some rs → evResL st rs = some xs →
    ∃ vs, (rvs.mapM F).run P w = .ok vs w ∧ RelAs (num ns) G xs vs
  | [], rs, xs, hc, hx => by
    simp [mapO] at hc; subst hc
    simp [evResL] at hx; subst hx
    exact ⟨[], by simp, by simp [RelAs]⟩
  | r :: rvs, rs, xs, hc, hx => by
    simp only [mapO] at hc
    split at hc
    · rename_i ar ars h1 h2
      simp at hc; subst hc
      simp only [evResL] at hx
      split at hx
      · rename_i v vs' g1 g2
        simp at hx; subst hx
        obtain ⟨us, k1, k2⟩ := results_run hs hF1 hF2 h2 g2
        have one : ∃ u, (F r).run P w = .ok u w ∧ RelA (num ns) G v u := by
          cases r with
          | tmp t =>
            simp [compR] at h1; subst h1
            simp only [evRes] at g1
            obtain ⟨u, e1, e2⟩ := hs.env.env t v g1
            exact ⟨u, by rw [hF1]; simp [e1], e2⟩
          | cell ad t =>
            simp only [compR] at h1
            split at h1
            · rename_i sz ag hsz hag
              simp at h1; subst h1
              simp only [evRes] at g1
              split at g1
              · rename_i d e1
                split at g1
                · rename_i cs e2
                  simp only [Option.ite_none_right_eq_some] at g1
                  obtain ⟨rfl, g1⟩ := g1
                  obtain ⟨u, f1, f2⟩ := hs.env.env _ _ e1
                  simp only [RelA] at f2
                  obtain ⟨b, hp, rfl⟩ := f2
                  obtain ⟨b', hp', hblk, _⟩ := hs.inv.memOk _ _ e2
                  rw [hp] at hp'; cases hp'
                  obtain ⟨_, c, ty, hh, hrel⟩ := hblk
                  obtain ⟨u, q1, q2⟩ := ofCells_load (w := w) hsz hag g1 hrel (cells_of_heap hh)
                  exact ⟨u, by rw [hF2]; simp [f1, asAddr, q1], q2⟩
                · cases g1
              · rename_i s e1
                split at g1
                · rename_i cs e2
                  split at g1
                  · cases g1
                  · rename_i hm
                    obtain ⟨u, f1, f2⟩ := hs.env.env _ _ e1
                    simp only [RelA] at f2
                    obtain ⟨b, hp, rfl⟩ := f2
                    obtain ⟨b', hp', hblk, _⟩ := hs.inv.shOk _ _ e2
                    rw [hp] at hp'; cases hp'
                    obtain ⟨_, c, ty, vs, suf, hh, _, hsp, hrel⟩ := hblk.cells (by simpa using hm)
                    obtain ⟨u, q1, q2⟩ := ofCells_load (w := w) hsz hag g1 hrel (cells_of_pre hh hsp)
                    exact ⟨u, by rw [hF2]; simp [f1, asAddr, q1], q2⟩
                · cases g1
              · cases g1
            · simp at h1
        obtain ⟨u, o1, o2⟩ := one
        refine ⟨u :: us, ?_, ?_⟩
        · rw [List.mapM_cons]
          simp only [Sem.run_bind]
          rw [o1]
          simp only [Result.andThen_ok]
          rw [k1]
          rfl
        · simp only [RelAs]; exact ⟨u, us, rfl, o2, k2⟩
      · simp at hx
    · simp at hc

theorem outOf1_rel {G' : Gh} {sh : Sh} {ks : List Nat} (hle : G.le G') (hf : Frozen ns G G' sh ks) (hl : ∀ (s : Nat) (cells : List AV), sh[s]? = some (some cells) → cells.all leafB = true)
    {x : AV} {v : Value} (ha : ∀ s ∈ arrs x, s ∈ ks) (h : RelA (num ns) G x v) : RelA (num ns) G' (outOf sh x) v := by
  unfold outOf
  split
  · rename_i p hp
    simp only [RelA]
    exact frzS_rel hle hf hl ha hp h
  · exact h.mono hle

theorem outL_rel {G' : Gh} {sh : Sh} {ks : List Nat} (hle : G.le G') (hf : Frozen ns G G' sh ks) (hl : ∀ (s : Nat) (cells : List AV), sh[s]? = some (some cells) → cells.all leafB = true)
    {x : AV} {v : Value} (ha : leafB x = true → ∀ s ∈ arrs x, s ∈ ks) (h : RelA (num ns) G x v) : RelA (num ns) G' (outL sh x) v := by
  unfold outL
  split
  · exact h.mono hle
  · split
    · rename_i hl'
      exact outOf1_rel hle hf hl (ha hl') h
    · exact h.mono hle

theorem outLs_rel {G' : Gh} {sh : Sh} {ks : List Nat} (hle : G.le G') (hf : Frozen ns G G' sh ks) (hl : ∀ (s : Nat) (cells : List AV), sh[s]? = some (some cells) → cells.all leafB = true) :
    ∀ {cs : List AV} {vs : List Value}, (∀ s ∈ arrs (.agg cs), s ∈ ks) → RelAs (num ns) G cs vs → RelAs (num ns) G' (cs.map (outL sh)) vs
  | [], vs, _, h => by simpa [RelAs] using h
  | c :: cs, vs, ha, h => by
    simp only [RelAs] at h
    obtain ⟨v, r, e, e1, e2⟩ := h
    simp only [List.map_cons, RelAs]
    refine ⟨v, r, e, outL_rel hle hf hl (fun hb s hs => ha s ?_) e1, outLs_rel hle hf hl (fun s hs => ha s ?_) e2⟩
    · simp only [arrs, List.flatMap_cons, List.mem_append]
      left
      cases c <;> simp_all [arrs, leafB]
    · simp only [arrs, List.flatMap_cons, List.mem_append] at hs ⊢
      exact .inr hs

theorem outK_rel {G' : Gh} {sh : Sh} {ks : List Nat} (hle : G.le G') (hf : Frozen ns G G' sh ks) (hl : ∀ (s : Nat) (cells : List AV), sh[s]? = some (some cells) → cells.all leafB = true)
    {x : AV} {v : Value} (ha : ∀ s ∈ arrs x, s ∈ ks) (h : RelA (num ns) G x v) : RelA (num ns) G' (outK sh x) v := by
  unfold outK
  split
  · exact h.mono hle
  · exact h.mono hle
  · simp only [RelA] at h ⊢
    obtain ⟨vs, e, r⟩ := h
    exact ⟨vs, e, outLs_rel hle hf hl ha r⟩
  · exact outOf1_rel hle hf hl ha h

theorem outMap_rel {G' : Gh} {sh : Sh} {ks : List Nat} {F : Sh → AV → AV} (hF : ∀ {x : AV} {v : Value}, (∀ s ∈ arrs x, s ∈ ks) → RelA (num ns) G x v → RelA (num ns) G' (F sh x) v) :
    ∀ {xs : List AV} {vs : List Value}, (∀ s ∈ xs.flatMap arrs, s ∈ ks) → RelAs (num ns) G xs vs → RelAs (num ns) G' (xs.map (F sh)) vs
  | [], vs, _, h => by simpa [RelAs] using h
  | x :: xs, vs, ha, h => by
    simp only [RelAs] at h
    obtain ⟨v, r, e, e1, e2⟩ := h
    simp only [List.flatMap_cons, List.mem_append] at ha
    simp only [List.map_cons, RelAs]
    exact ⟨v, r, e, hF (fun s hs => ha s (.inl hs)) e1, outMap_rel hF (fun s hs => ha s (.inr hs)) e2⟩

theorem outAll_rel {G' : Gh} {sh : Sh} {ks : List Nat} {keep kst : Bool} (hle : G.le G') (hf : Frozen ns G G' sh ks) (hl : ∀ (s : Nat) (cells : List AV), sh[s]? = some (some cells) → cells.all leafB = true)
    {xs : List AV} {vs : List Value} (ha : ∀ s ∈ xs.flatMap arrs, s ∈ ks) (h : RelAs (num ns) G xs vs) : RelAs (num ns) G' (outAll keep kst sh xs) vs := by
  unfold outAll
  split
  · split
    · exact RelAs.mono hle h
    · exact outMap_rel (outK_rel hle hf hl) ha h
  · exact outMap_rel (outOf1_rel hle hf hl) ha h

theorem relResA_of {xs : List AV} {vs : List Value} (h : RelAs (num ns) G xs vs) : RelResA (num ns) G xs (if h : vs.toArray.size = 1 then vs.toArray[0] else .tuple vs.toArray) := by
  unfold RelResA
  split
  · rename_i r
    simp only [RelAs] at h
    obtain ⟨v, r', e, e1, e2⟩ := h
    subst e2; subst e
    simpa using e1
  · rename_i hn
    have hl := h.length
    rw [dif_neg]
    · exact ⟨vs, rfl, h⟩
    · intro e
      simp at e
      rw [e] at hl
      cases xs with
      | nil => simp at hl
      | cons x xs =>
        cases xs with
        | nil => exact hn x rfl
        | cons _ _ => simp at hl

end

/-! ### Dropping shared memory that nobody refers to -/

mutual
theorem refs_rel {ρ : Nums} {G G' : Gh} {n : Nat} (hK : G.K.le G'.K) (hs : ∀ s b, s < n → G.sm s = some b → G'.sm s = some b) : ∀ {x : AV} {v : Value}, passB x = true → refsLt n x = true → RelA ρ G x v → RelA ρ G' x v
  | .pv p, _, _, _, h => by simp only [RelA] at h ⊢; exact h.mono hK
  | .sptr s o, _, _, hr, h => by simp [refsLt] at hr; simp only [RelA] at h ⊢; obtain ⟨b, e, r⟩ := h; exact ⟨b, hs _ _ hr e, r⟩
  | .sarr s _ n _, _, _, hr, h => by simp [refsLt] at hr; simp only [RelA] at h ⊢; obtain ⟨b, c, e, r⟩ := h; exact ⟨b, c, hs _ _ hr e, r⟩
  | .nilp, _, _, _, h => by simpa only [RelA] using h
  | .mref s, _, _, hr, h => by simp [refsLt] at hr; simp only [RelA] at h ⊢; obtain ⟨b, e, r⟩ := h; exact ⟨b, hs _ _ hr e, r⟩
  | .ssub .., _, hp, _, _ => by simp [passB] at hp
  | .mapc _, _, _, _, h => by simp only [RelA] at h
  | .fn g cap, _, hp, hr, h => by
    simp only [passB] at hp
    simp only [refsLt] at hr
    simp only [RelA] at h ⊢
    obtain ⟨f, vs, e1, e2, r⟩ := h
    exact ⟨f, vs, e1, e2, refsL_rel hK hs hp hr r⟩
  | .un, _, hp, _, _ => by simp [passB] at hp
  | .clp _, _, _, _, h => by simp only [RelA] at h ⊢; obtain ⟨b, l, e, r⟩ := h; exact ⟨b, l, e, r.mono hK⟩
  | .own _ _, _, hp, _, _ => by simp [passB] at hp
  | .agg _, _, hp, hr, h => by
    simp only [passB] at hp
    simp only [refsLt] at hr
    simp only [RelA] at h ⊢
    obtain ⟨vs, e, r⟩ := h
    exact ⟨vs, e, refsL_rel hK hs hp hr r⟩
  | .tup _, _, hp, _, _ => by simp [passB] at hp
  | .lptr _ _, _, hp, _, _ => by simp [passB] at hp
  | .eptr _, _, hp, _, _ => by simp [passB] at hp
theorem refsL_rel {ρ : Nums} {G G' : Gh} {n : Nat} (hK : G.K.le G'.K) (hs : ∀ s b, s < n → G.sm s = some b → G'.sm s = some b) : ∀ {xs : List AV} {vs : List Value}, passB.passL xs = true → refsLt.refsLtL n xs = true → RelAs ρ G xs vs → RelAs ρ G' xs vs
  | [], _, _, _, h => by simpa only [RelAs] using h
  | x :: xs, _, hp, hr, h => by
    simp only [passB.passL, Bool.and_eq_true] at hp
    simp only [refsLt.refsLtL, Bool.and_eq_true] at hr
    simp only [RelAs] at h ⊢
    obtain ⟨v, r, e, e1, e2⟩ := h
    exact ⟨v, r, e, refs_rel hK hs hp.1 hr.1 e1, refsL_rel hK hs hp.2 hr.2 e2⟩
end

section
variable {P : Program} {ns : Names} {G : Gh} {w : World}

theorem refsAll {n : Nat} {xs : List AV} (h : xs.all (refsLt n) = true) : refsLt.refsLtL n xs = true := by
  induction xs with
  | nil => rfl
  | cons x xs ih => simp only [List.all_cons, Bool.and_eq_true] at h; simp [refsLt.refsLtL, h.1, ih h.2]

theorem refsOL_rel {ρ : Nums} {G' : Gh} {n : Nat} (hK : G.K.le G'.K) (hs : ∀ s b, s < n → G.sm s = some b → G'.sm s = some b) (ht : ∀ τ t, G.tk τ = some t → G'.tk τ = some t) : ∀ {xs : List AV} {vs : List Value}, passOL xs = true → refsLt.refsLtL n xs = true → RelAs ρ G xs vs → RelAs ρ G' xs vs
  | [], _, _, _, h => by simpa only [RelAs] using h
  | x :: xs, _, hp, hr, h => by
    simp only [passOL, Bool.and_eq_true] at hp
    simp only [refsLt.refsLtL, Bool.and_eq_true] at hr
    simp only [RelAs] at h ⊢
    obtain ⟨v, r, e, e1, e2⟩ := h
    refine ⟨v, r, e, ?_, refsOL_rel hK hs ht hp.2 hr.2 e2⟩
    cases x with
    | own l τ =>
      simp only [RelA] at e1 ⊢
      obtain ⟨t, a1, a2, a3, a4⟩ := e1
      exact ⟨t, ht _ _ a1, a2, a3.mono hK, fun hl => ⟨(a4 hl).1, orR (a4 hl).2 fun ⟨b, o, e, r⟩ => ⟨b, o, e, Row.mono hK _ _ _ _ r⟩⟩⟩
    | _ => exact refs_rel hK hs (show passB _ = true from hp.1) hr.1 e1

theorem refsO_rel {ρ : Nums} {G' : Gh} {n : Nat} (hK : G.K.le G'.K) (hs : ∀ s b, s < n → G.sm s = some b → G'.sm s = some b) (ht : ∀ τ t, G.tk τ = some t → G'.tk τ = some t) {x : AV} {v : Value} (hp : passO x = true) (hr : refsLt n x = true) (h : RelA ρ G x v) : RelA ρ G' x v := by
  cases x with
  | own l τ =>
    simp only [RelA] at h ⊢
    obtain ⟨t, e1, e2, e3, e4⟩ := h
    exact ⟨t, ht _ _ e1, e2, e3.mono hK, fun hl => ⟨(e4 hl).1, orR (e4 hl).2 fun ⟨b, o, e, r⟩ => ⟨b, o, e, Row.mono hK _ _ _ _ r⟩⟩⟩
  | agg cs =>
    simp only [refsLt] at hr
    simp only [RelA] at h ⊢
    obtain ⟨vs, e, r⟩ := h
    exact ⟨vs, e, refsOL_rel hK hs ht (by simpa [passO] using hp) hr r⟩
  | _ => exact refs_rel hK hs (show passB _ = true from hp) hr h

theorem refsOs_rel {ρ : Nums} {G' : Gh} {n : Nat} (hK : G.K.le G'.K) (hs : ∀ s b, s < n → G.sm s = some b → G'.sm s = some b) (ht : ∀ τ t, G.tk τ = some t → G'.tk τ = some t) : ∀ {xs : List AV} {vs : List Value}, xs.all passO = true → xs.all (refsLt n) = true → RelAs ρ G xs vs → RelAs ρ G' xs vs
  | [], _, _, _, h => by simpa only [RelAs] using h
  | x :: xs, _, hp, hr, h => by
    simp only [List.all_cons, Bool.and_eq_true] at hp hr
    simp only [RelAs] at h ⊢
    obtain ⟨v, r, e, e1, e2⟩ := h
    exact ⟨v, r, e, refsO_rel hK hs ht hp.1 hr.1 e1, refsOs_rel hK hs ht hp.2 hr.2 e2⟩

theorem relResA_refs {ρ : Nums} {G' : Gh} {n : Nat} (hK : G.K.le G'.K) (hs : ∀ s b, s < n → G.sm s = some b → G'.sm s = some b) (ht : ∀ τ t, G.tk τ = some t → G'.tk τ = some t) {rs : List AV} {v : Value} (hp : rs.all passO = true) (hr : rs.all (refsLt n) = true) (h : RelResA ρ G rs v) : RelResA ρ G' rs v := by
  unfold RelResA at h ⊢
  split at h
  · simp only [List.all_cons, List.all_nil, Bool.and_true] at hr hp
    exact refsO_rel hK hs ht hp hr h
  · obtain ⟨vs', e', hrel⟩ := h
    exact ⟨vs', e', refsOs_rel hK hs ht hp hr hrel⟩

/-- Without private memory. -/
def Gh.bare (G : Gh) : Gh := { G with pm := fun _ => none, role := fun b => match G.role b with | .priv _ => .imm | r => r }

theorem Inv.bare {mem : List (Nat × List AV)} {sh : Sh} {ts : Toks} (hi : Inv (num ns) G w mem sh ts) : Inv (num ns) G.bare w [] sh ts where
  known := hi.known
  known_role := fun b o v hk => by
    rcases hi.known_role b o v hk with h | ⟨τ, h⟩
    · exact .inl (by simp [Gh.bare, h])
    · exact .inr ⟨τ, by simp [Gh.bare, h]⟩
  fresh := fun b hb => by simp [Gh.bare, hi.fresh b hb]
  memOk := fun d cells h => by simp [look] at h
  pmOk := fun d b h => by simp [Gh.bare] at h
  shOk := fun s cells hs => by
    obtain ⟨b, e1, e2, e3, e4⟩ := hi.shOk s cells hs
    obtain ⟨hr, o, hh, hrel⟩ := e2
    exact ⟨b, e1, ⟨by simp [Gh.bare, hr], o, hh, hrel.to (fun _ _ _ h => h) (fun _ e => e) (fun _ r => passOs_rel (G := G) (G' := G.bare) (Know.le_refl _) (fun _ _ h => h) (fun _ _ h => h) (leaves_passO e3) r)⟩, e3, e4⟩
  smOk := hi.smOk
  tokOk := fun τ n h => by
    obtain ⟨t, e1, e2, e3⟩ := hi.tokOk τ n h
    refine ⟨t, e1, e2, e3.cap, e3.zero, fun hlt => ?_⟩
    obtain ⟨b, o, c, ty, f1, f2, f3, f4, f5⟩ := e3.spare hlt
    exact ⟨b, o, c, ty, f1, by simp [Gh.bare, f2], f3, f4, f5⟩
  tkOk := hi.tkOk

def Gh.trunc (G : Gh) (n : Nat) : Gh := { G with sm := fun s => if s < n then G.sm s else none }

theorem Inv.trunc {sh : Sh} {ts : Toks} (hi : Inv (num ns) G w [] sh ts) (n : Nat) : Inv (num ns) (G.trunc n) w [] (sh.take n) ts where
  known := hi.known
  known_role := hi.known_role
  fresh := hi.fresh
  memOk := fun d cells h => by simp [look] at h
  pmOk := hi.pmOk
  shOk := fun s cells hs => by
    rw [List.getElem?_take] at hs
    split at hs
    · rename_i hlt
      obtain ⟨b, e1, e2, e3, e4⟩ := hi.shOk s cells hs
      obtain ⟨hr, o, hh, hrel⟩ := e2
      exact ⟨b, by simp [Gh.trunc, hlt, e1], ⟨hr, o, hh, hrel.to (fun _ _ _ h => h) (fun _ e => e) (fun _ r => refsOs_rel (G := G) (G' := G.trunc n) (n := s + 1) (Know.le_refl G.K) (fun s' b' hs' h => by simp only [Gh.trunc]; rw [if_pos (by omega)]; exact h) (fun _ _ h => h) (leaves_passO e3) e4 r)⟩, e3, e4⟩
    · simp at hs
  smOk := fun s b h => by
    simp only [Gh.trunc] at h
    split at h
    · have := hi.smOk s b h; simp; omega
    · simp at h
  tokOk := fun τ n h => by
    obtain ⟨t, e1, e2, e3⟩ := hi.tokOk τ n h
    exact ⟨t, e1, e2, e3.cap, e3.zero, e3.spare⟩
  tkOk := hi.tkOk

/-- A block of book-keeping is shut. -/
theorem Inv.shut {mem : List (Nat × List AV)} {sh : Sh} {toks : Toks} {D : Nat} {x : Option (List Deferred)} (hi : Inv (num ns) G w mem sh toks) (hD : w.heap[D]? = some (.deferred x)) :
    Inv (num ns) G (w.putObj D (.deferred none)) mem sh toks := by
  have hne : ∀ {b : Nat} {c : Array Value} {t : TypeId}, w.heap[b]? = some (.cells c t (0, 0)) → (w.putObj D (.deferred none)).heap[b]? = some (.cells c t (0, 0)) := by
    intro b c t h
    rw [World.putObj_heap_other]
    · exact h
    · rintro rfl; rw [hD] at h; cases h
  have hsize : (w.putObj D (.deferred none)).heap.size = w.heap.size := by simp [World.putObj]
  refine { hi with known := ?_, fresh := ?_, memOk := ?_, shOk := ?_, tokOk := ?_ }
  · intro b o v hk
    have h := hi.known b o v hk
    rw [← h]
    have : b ≠ D := by rintro rfl; simp [World.cell?, hD] at h
    simp only [World.cell?, World.putObj_heap_other this]
  · intro b hb; exact hi.fresh b (by omega)
  · intro k cs hk
    obtain ⟨b, e1, ⟨e2, c, t, e3, e4⟩, e5⟩ := hi.memOk k cs hk
    exact ⟨b, e1, ⟨e2, c, t, hne e3, e4⟩, e5⟩
  · intro k cs hk
    obtain ⟨b, e1, ⟨e2, o, e3, e4⟩, e5⟩ := hi.shOk k cs hk
    refine ⟨b, e1, ⟨e2, o, ?_, e4⟩, e5⟩
    rw [World.putObj_heap_other]
    · exact e3
    · rintro rfl
      rw [hD] at e3; cases e3
      rcases e4 with ⟨_, _, _, _, h, _⟩ | ⟨_, _, _, h, _⟩ <;> cases h
  · intro τ n hn
    obtain ⟨t, e1, e2, e3⟩ := hi.tokOk τ n hn
    refine ⟨t, e1, e2, e3.cap, e3.zero, fun hlt => ?_⟩
    obtain ⟨b, o, c, ty, f1, f2, f3, f4, f5⟩ := e3.spare hlt
    exact ⟨b, o, c, ty, f1, f2, hne f3, f4, f5⟩

theorem Evo.shut {G' : Gh} {w' : World} {D : Nat} (he : Evo G w G' w') (hD : w.heap.size ≤ D) : Evo G w G' (w'.putObj D (.deferred none)) :=
  { he with
    size := by simpa [World.putObj] using he.size
    os := by simpa [World.putObj] using he.os
    tape := by simpa [World.putObj] using he.tape
    output := by simpa [World.putObj] using he.output
    imm := fun b hb hr => by
      obtain ⟨h1, h2⟩ := he.imm b hb hr
      exact ⟨h1, by rw [World.putObj_heap_other (by omega)]; exact h2⟩ }

/-- A frame on its way out takes its marks up. -/
theorem leave_marks {fn : Func} {tmps : Array Value} {R : Ending → World → Prop} {mem : List (Nat × List AV)} {sh : Sh} {toks : Toks} {G' : Gh} : ∀ (Ds : List Nat) (w' : World), Inv (num ns) G' w' mem sh toks → Evo G w G' w' → Ds.Nodup →
    (∀ D ∈ Ds, w.heap.size ≤ D ∧ w'.heap[D]? = some (.deferred (some []))) →
    (∀ w'', Inv (num ns) G' w'' mem sh toks → Evo G w G' w'' → ∃ v, (results fn tmps).run P w'' = .ok v w'' ∧ R (.returned v) w'') →
    LeavesInM Fence.wide 0 P fn tmps R (Ds.map (fun D => { target := .collected D, args := #[] })) .returning w'
  | [], w', hi, he, _, _, h => h w' hi he
  | D :: Ds, w', hi, he, hn, hD, h => by
    obtain ⟨h1, h2⟩ := hD D (by simp)
    refine ⟨by simp, .inl ⟨D, _, rfl, run_takeDeferred h2, ?_⟩⟩
    simp only [List.nodup_cons] at hn
    refine leave_marks Ds _ (hi.shut h2) (he.shut h1) hn.2 (fun E hE => ?_) h
    obtain ⟨g1, g2⟩ := hD E (by simp [hE])
    refine ⟨g1, ?_⟩
    rw [World.putObj_heap_other]
    · exact g2
    · rintro rfl; exact hn.1 hE

/-- **The body of a function.** -/
theorem body_sound (hm : P.follows .mixedOrders = true) (hB : Bodies P ns) (hBk : BacksOk P ns) {orc : Orc} (horc : OrcOk P ns orc) {A : Ann} {k f : Nat} {keep : Bool} {fn : Func} {af : AFunc} (hf : P.funcs[f]? = some fn) (hc : compF P ns A fn = some af)
    {args rs : List AV} {vs : List Value} {sh sh' : Sh} {ts ts' : Toks} (hi : Inv (num ns) G w [] sh ts) (hr : RelAs (num ns) G args vs) (hN : args.length ≤ af.ntmps) (h : callBody orc k keep af args sh ts = some (rs, sh', ts')) :
    (Calls P f vs.toArray w fun e w' => ∃ v G', e = .returned v ∧ RelResA (num ns) G' rs v ∧ Inv (num ns) G' w' [] sh' ts' ∧ Evo G w G' w') ∧ rs.all passO = true := by
  unfold compF at hc
  split at hc
  · rename_i c ars hbody hres
    simp only [Option.ite_none_right_eq_some, Option.map_eq_some_iff] at hc
    obtain ⟨_, ac, hcc, rfl⟩ := hc
    unfold callBody at h
    split at h
    · rename_i e st hev
      simp only [Option.ite_none_right_eq_some] at h
      obtain ⟨he, h⟩ := h
      split at h
      · rename_i xs hxs
        simp only [Option.ite_none_right_eq_some] at h
        obtain ⟨hpass, h⟩ := h
        let kst := A.ks
        let shk : Sh := shOut keep kst st.sh xs
        let shd : Sh := if (outAll keep kst st.sh xs).all (refsLt sh.length) = true then shk.take sh.length else shk
        have h : some ((giveN st.toks (outAll keep kst st.sh xs) shd).1, (giveN st.toks (outAll keep kst st.sh xs) shd).2.1, (giveN st.toks (outAll keep kst st.sh xs) shd).2.2.2) = some (rs, sh', ts') := h
        simp only [Option.some.injEq, Prod.mk.injEq] at h
        obtain ⟨hrs, hsh, hts⟩ := h
        have hpass' : rs.all passO = true := by rw [← hrs]; exact normL_passO hpass
        refine ⟨?_, hpass'⟩
        refine callsIn_wide (n := 0).1 (callsIn_of_wp_marks hf hbody trivial ?_ rfl)
        have hs0 : Sim (num ns) w.heap.size fn.ntmps G { env := enterEnv 0 args, mem := [], sh, toks := ts } { tmps := vs.toArray ++ Array.replicate (fn.ntmps - vs.toArray.size) undef, defers := [] } w := ⟨enter_ok hr hN, hi, Nat.le_refl _, [], rfl, by simp, by simp⟩
        refine code_in (ro := none) hm hB horc hBk hcc (.inl rfl) hev hs0 fun G' a' w1 hs1 hevo1 => ?_
        have key : LeavesInM Fence.wide 0 P fn a'.tmps (fun e w' => ∃ v G', e = .returned v ∧ RelResA (num ns) G' rs v ∧ Inv (num ns) G' w' [] sh' ts' ∧ Evo G w G' w') a'.defers .returning w1 := by
          obtain ⟨m0, Ds, m1, m2, m3⟩ := hs1.marks
          rw [m1]
          refine leave_marks Ds w1 hs1.inv hevo1 m2 (fun D hD => ⟨(m3 D hD).1, (m3 D hD).2.2.2⟩) ?_
          intro w' hi' hevo
          have hs' : Sim (num ns) w.heap.size fn.ntmps G' st { tmps := a'.tmps, defers := [] } w' := ⟨⟨hs1.env.size, hs1.env.env⟩, hi', hevo.size, [], rfl, by simp, by simp⟩
          obtain ⟨us, u1, u2⟩ := results_run (P := P) hs' (F := fun | .tmp t => pure (a'.tmps.getD t undef) | .cell ad t => do loadVar t (← asAddr (a'.tmps.getD ad undef))) (fun _ => rfl) (fun _ _ => rfl) hres hxs
          refine ⟨(if h : us.toArray.size = 1 then us.toArray[0] else .tuple us.toArray), ?_, ?_⟩
          · unfold results
            rw [Array.mapM_eq_mapM_toList]
            simp only [Sem.run_bind, Sem.run_map]
            erw [u1]
            rfl
          · obtain ⟨G1, k1, k2, k3, hout⟩ : ∃ G1, Inv (num ns) G1 w' st.mem shk st.toks ∧ G'.le G1 ∧ Evo G' w' G1 w' ∧ RelAs (num ns) G1 (outAll keep kst st.sh xs) us := by
              by_cases hkk : (keep && kst) = true
              · refine ⟨G', ?_, Gh.le_refl _, Evo.refl _ _, ?_⟩
                · have : shk = st.sh := by simp only [shk, shOut, hkk, if_true]
                  rw [this]; exact hs'.inv
                · have : outAll keep kst st.sh xs = xs := by
                    simp only [Bool.and_eq_true] at hkk
                    simp only [outAll, hkk.1, hkk.2, if_true]
                  rw [this]; exact u2
              · obtain ⟨G1, k1, k2, k3, k4, k5⟩ := Inv.kill (xs.flatMap arrs) hs'.inv
                refine ⟨G1, ?_, k2, k3, outAll_rel (keep := keep) k2 k4 hs'.inv.shLeaf (fun s hs => hs) u2⟩
                have : shk = killAll st.sh xs := by
                  simp only [shk, shOut]
                  rw [if_neg hkk]
                rw [this]; exact k1
            have hbare := passOs_rel (G := G1) (G' := G1.bare) (Know.le_refl _) (fun _ _ h => h) (fun _ _ h => h) hpass hout
            have k1b := k1.bare
            have hevo0 := hevo.trans k3
            -- what goes out, and the shared memory that it may look at
            obtain ⟨G2, i2, r2, e2⟩ : ∃ G2, Inv (num ns) G2 w' [] shd st.toks ∧ RelAs (num ns) G2 (outAll keep kst st.sh xs) us ∧ Evo G w G2 w' := by
              have bareEvo : Evo G w G1.bare w' := {
                size := hevo0.size, os := hevo0.os, tape := hevo0.tape, output := hevo0.output, K := hevo0.K, sm := hevo0.sm,
                imm := fun b hb hr => ⟨by simp [Gh.bare, (hevo0.imm b hb hr).1], (hevo0.imm b hb hr).2⟩
                tokr := fun b τ hb hr => by
                  rcases hevo0.tokr b τ hb hr with h | ⟨τ', h⟩
                  · exact .inl (by simp [Gh.bare, h])
                  · exact .inr ⟨τ', by simp [Gh.bare, h]⟩
                Kimm := hevo0.Kimm }
              by_cases href : (outAll keep kst st.sh xs).all (refsLt sh.length) = true
              · have hshd : shd = shk.take sh.length := if_pos href
                rw [hshd]
                refine ⟨G1.bare.trunc sh.length, k1b.trunc sh.length, refsOs_rel (G := G1.bare) (G' := G1.bare.trunc sh.length) (n := sh.length) (Know.le_refl _) (fun s b hs h => by simp only [Gh.trunc]; rw [if_pos hs]; exact h) (fun _ _ h => h) hpass href hbare, ?_⟩
                exact { size := bareEvo.size, os := bareEvo.os, tape := bareEvo.tape, output := bareEvo.output, K := bareEvo.K,
                        sm := fun s b hsb => by
                          have := hi.smOk s b hsb
                          show (if s < sh.length then G1.sm s else none) = some b
                          rw [if_pos this]; exact bareEvo.sm s b hsb
                        imm := bareEvo.imm, tokr := bareEvo.tokr, Kimm := bareEvo.Kimm }
              · have hshd : shd = shk := if_neg href
                rw [hshd]
                exact ⟨G1.bare, k1b, hbare, bareEvo⟩
            obtain ⟨m, tks, hNS, hto, hrel⟩ := i2.give hpass r2
            rw [hrs] at hrel
            rw [hsh, hts] at hto
            exact ⟨_, G2.to m tks, rfl, relResA_of hrel, hto, e2.to m tks⟩
        cases e with
        | normal => exact key
        | ret => exact key
        | exit id => simp at he
      · simp at h
    · simp at h
  · simp at hc

theorem callBody_pass {orc : Orc} {k : Nat} {keep : Bool} {af : AFunc} {args rs : List AV} {sh sh' : Sh} {ts ts' : Toks} (h : callBody orc k keep af args sh ts = some (rs, sh', ts')) : rs.all passO = true := by
  unfold callBody at h
  split at h
  · split at h
    · split at h
      · simp only [Option.ite_none_right_eq_some] at h
        obtain ⟨hp, h⟩ := h
        have e := congrArg Prod.fst (Option.some.inj h)
        dsimp only at e
        rw [← e]; exact normL_passO hp
      · simp at h
    · simp at h
  · simp at h

/-- The program bears the slim code of each function that has a lasting number. -/
structure Impl (P : Program) (ns : Names) (AP : Nat → Option AFunc) : Prop where
  mixed : P.follows .mixedOrders = true
  funcs : ∀ f g, ns.of f = some g → (∃ fn A af, P.funcs[f]? = some fn ∧ compF P ns A fn = some af ∧ AP g = some af) ∨
    ((∃ fn b, P.funcs[f]? = some fn ∧ fn.body = some b ∧ fn.name ≠ "runtime.NumGoroutine") ∧
      (AP g = none ∨ ∃ af pf, AP g = some af ∧ af.prim = some pf ∧ af.body = .exit 0 ∧ ∀ pvs rs, pf pvs = some rs → PureC P f pvs rs))
  backs : BacksOk P ns
  clones : ∀ g sz bytes f, look ns.cl g = some (sz, bytes) → ns.of f = some g → Nonempty (CloneDat P ns f sz bytes)

theorem Impl.bodies {AP : Nat → Option AFunc} (h : Impl P ns AP) : Bodies P ns := by
  intro f g hg
  rcases h.funcs f g hg with ⟨fn, A, af, h1, h2, _⟩ | ⟨⟨fn, b, h1, h2, h3⟩, _⟩
  · unfold compF at h2
    split at h2
    · rename_i b rs hb _
      simp only [Option.ite_none_right_eq_some] at h2
      obtain ⟨⟨_, hn⟩, _⟩ := h2
      exact ⟨fn, b, h1, hb, by simpa using hn⟩
    · simp at h2
  · exact ⟨fn, b, h1, h2, h3⟩

theorem compF_prim {A : Ann} {fn : Func} {af : AFunc} (h : compF P ns A fn = some af) : af.prim = none := by
  unfold compF at h
  split at h
  · simp only [Option.ite_none_right_eq_some, Option.map_eq_some_iff] at h
    obtain ⟨_, _, _, rfl⟩ := h
    rfl
  · simp at h

theorem frzOut_inv : ∀ {rs : List AV} {ps : List PV}, frzOut rs = some ps → rs = ps.map .pv
  | [], ps, h => by simp [frzOut] at h; subst h; rfl
  | x :: rs, ps, h => by
    cases x with
    | pv p =>
      simp only [frzOut, Option.map_eq_some_iff] at h
      obtain ⟨qs, h1, rfl⟩ := h
      simp [frzOut_inv h1]
    | _ => simp [frzOut] at h

theorem relL_of_pvs : ∀ {ps : List PV} {vs : List Value}, RelAs (num ns) G (ps.map .pv) vs → RelL G.K ps vs
  | [], vs, h => by simp only [List.map_nil, RelAs] at h; exact h
  | p :: ps, vs, h => by
    simp only [List.map_cons, RelAs] at h
    obtain ⟨v, r, e, e1, e2⟩ := h
    simp only [RelA] at e1
    exact ⟨v, r, e, e1, relL_of_pvs e2⟩

theorem relRes_of {ps : List PV} {v : Value} (h : RelResA (num ns) G (ps.map .pv) v) : RelRes G.K ps v := by
  unfold RelRes
  split
  · rename_i p
    simp only [List.map_cons, List.map_nil, RelResA, RelA] at h
    exact h
  · rename_i hn
    unfold RelResA at h
    split at h
    · rename_i r e
      cases ps with
      | nil => simp at e
      | cons q qs =>
        cases qs with
        | nil => exact absurd rfl (hn q)
        | cons _ _ => simp at e
    · obtain ⟨vs, e, h⟩ := h
      exact ⟨vs, e, relL_of_pvs h⟩

theorem run_sound {AP : Nat → Option AFunc} (hI : Impl P ns AP) (k : Nat) : ∀ n, OrcOk P ns (run AP k n)
  | 0 => ⟨fun g f pvs rs _ h => by simp [run] at h, fun g f args ts rs sh sh' ts' _ _ h => by simp [run] at h, fun g sz by_ f h1 h2 => (hI.clones g sz by_ f h1 h2).elim clone_sound⟩
  | n + 1 => by
    have ih := run_sound hI k n
    refine ⟨fun g f pvs rs hg h => ?_, fun g f args ts rs sh sh' ts' hg hp h => ?_, ih.c⟩
    · rcases hI.funcs f g hg with ⟨fn, A, af, h1, h2, h3⟩ | ⟨_, h3 | ⟨af, pf, h3, h4, _, h5⟩⟩
      · simp only [run, h3, compF_prim h2, Option.ite_none_right_eq_some] at h
        obtain ⟨⟨_, hN⟩, h⟩ := h
        split at h
        · rename_i xs x2 hb
          obtain ⟨sh', ts'⟩ := x2
          have hxs := frzOut_inv h
          subst hxs
          intro K w vs hK hr
          let G0 : Gh := { K, role := fun _ => .imm, pm := fun _ => none, sm := fun _ => none, tk := fun _ => none }
          have hi : Inv (num ns) G0 w [] [] [] := {
            known := hK, known_role := fun _ _ _ _ => .inl rfl, fresh := fun _ _ => rfl, memOk := fun d c h => by simp [look] at h, pmOk := fun d b h => by simp [G0] at h,
            shOk := fun s c h => by simp at h, smOk := fun s b h => by simp [G0] at h, tokOk := fun τ n h => by simp at h, tkOk := fun τ t h => by simp [G0] at h }
          have hC := (body_sound hI.mixed hI.bodies hI.backs ih h1 h2 hi (relAs_of_relL (ρ := num ns) (G := G0) hr) (by simpa using hN) hb).1
          refine hC.mono ?_
          rintro e w' ⟨v, G', rfl, hres, hi', hevo⟩
          refine ⟨v, G'.K, rfl, relRes_of hres, hevo.K, fun b o u hb hk => hevo.Kimm b o u hb rfl hk, hi'.known, ⟨hevo.os, hevo.tape, hevo.output, hevo.size, fun b hb => (hevo.imm b hb rfl).2⟩⟩
        · simp at h
      · simp only [run, h3] at h; cases h
      · simp only [run, h3, h4] at h
        exact h5 _ _ h
    · rcases hI.funcs f g hg with ⟨fn, A, af, h1, h2, h3⟩ | ⟨_, h3 | ⟨af, pf, h3, _, h4, _⟩⟩
      · simp only [run, h3, Option.ite_none_right_eq_some] at h
        obtain ⟨hN, h⟩ := h
        exact ⟨fun G w vs hi hr => (body_sound hI.mixed hI.bodies hI.backs ih h1 h2 hi hr hN h).1, callBody_pass h⟩
      · simp only [run, h3] at h; cases h
      · simp only [run, h3, Option.ite_none_right_eq_some] at h
        obtain ⟨_, h⟩ := h
        unfold callBody at h
        rw [h4] at h
        simp [evC] at h

end
end Go.Ab
