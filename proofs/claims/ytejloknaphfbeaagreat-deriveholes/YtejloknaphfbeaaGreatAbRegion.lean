import Derived.Test.YtejloknaphfbeaaGreatAbStep
import Derived.Orders
import Derived.Tactics
/-
  A region: in the order of the text, and in whatever order the tape picks.
-/
set_option linter.unusedVariables false
set_option linter.unusedSimpArgs false
namespace Go.Ab

section
variable {n0 : Nat} {P : Program} {ns : Names} {G : Gh} {w : World}

theorem EnvOk.mono {G' : Gh} {N : Nat} {env : List (Nat × AV)} {a : Act} (h : EnvOk (num ns) G N env a) (hle : G.le G') : EnvOk (num ns) G' N env a :=
  ⟨h.size, fun t x hx => let ⟨v, h1, h2⟩ := h.env t x hx; ⟨v, h1, h2.mono hle⟩⟩

theorem EnvOk.put {N : Nat} {env : List (Nat × AV)} {a : Act} (h : EnvOk (num ns) G N env a) {dst : Option Nat} (hd : (dst.map (fun d => decide (d < N))).getD true = true) {x : AV} {v : Value} (hx : RelA (num ns) G x v) :
    EnvOk (num ns) G N (putD env dst x) (a.put dst v) := by
  cases dst with
  | none => exact h
  | some d =>
    simp at hd
    refine ⟨by simp [Act.put, h.size], fun t y hy => ?_⟩
    simp only [putD] at hy
    by_cases ht : d = t
    · subst ht
      rw [look_put_same] at hy
      cases hy
      exact ⟨v, by simp [Act.put, h.size, hd], hx⟩
    · rw [look_put_other _ _ _ _ ht] at hy
      obtain ⟨u, h1, h2⟩ := h.env t y hy
      exact ⟨u, by simp only [Act.put]; rw [Array.getElem?_setIfInBounds_ne ht]; exact h1, h2⟩

theorem put_defers (a : Act) (dst : Option Nat) (v : Value) : (a.put dst v).defers = a.defers := by cases dst <;> rfl

/-- What 'compOp' says. -/
theorem compOp_inv {A : Ann} {N : Nat} {ops : Array Oper} {o : Oper} {ao : AOp} (h : compOp P ns A N ops o = some ao) :
    ∃ args, compK P ns A o.dst o.op = some (ao.op, args) ∧ mapO (compOpd ns) args = some ao.args ∧ ao.dst = o.dst ∧ (o.dst.map (fun d => decide (d < N))).getD true = true ∧
      ((o.guard = none ∧ ao.guard = none) ∨ ∃ j b t, o.guard = some (j, b) ∧ (ops[j]?).bind (·.dst) = some t ∧ ao.guard = some (t, b)) := by
  unfold compOp at h
  split at h
  · rename_i k args hk
    split at h
    · rename_i as ha
      simp only [Option.ite_none_right_eq_some] at h
      obtain ⟨hd, h⟩ := h
      split at h
      · rename_i hg
        simp at h; subst h
        exact ⟨args, hk, ha, rfl, hd, .inl ⟨hg, rfl⟩⟩
      · rename_i j b hg
        split at h
        · rename_i t ht
          simp at h; subst h
          exact ⟨args, hk, ha, rfl, hd, .inr ⟨j, b, t, hg, ht, rfl⟩⟩
        · simp at h
    · simp at h
  · simp at h

theorem wanted_sound {A : Ann} {N : Nat} {ops : Array Oper} {o : Oper} {ao : AOp} {env : List (Nat × AV)} {a : Act} (h : compOp P ns A N ops o = some ao) (he : EnvOk (num ns) G N env a) {r : Bool}
    (hw : wantedA env ao.guard = some r) : Region.wanted o (yielded ops a.tmps) = r := by
  obtain ⟨_, _, _, _, _, hg⟩ := compOp_inv h
  rcases hg with ⟨h1, h2⟩ | ⟨j, b, t, h1, h2, h3⟩
  · rw [h2] at hw
    simp [wantedA] at hw
    simp [Region.wanted, h1, hw]
  · rw [h3] at hw
    simp only [wantedA] at hw
    split at hw
    · rename_i c hc
      obtain ⟨v, e1, e2⟩ := he.env t _ hc
      simp only [RelA, rel_bool] at e2
      simp at hw
      simp [Region.wanted, h1, yielded, h2, e1, e2, hw]
    · rename_i hc
      obtain ⟨v, e1, e2⟩ := he.env t _ hc
      simp only [RelA] at e2
      simp at hw
      simp [Region.wanted, h1, yielded, h2, e1, e2, undef, ← hw]
    · simp at hw

/-- One operation. -/
theorem evOp_sound (hB : Bodies P ns) {orc : Orc} (horc : OrcOk P ns orc) {A : Ann} {N : Nat} {ops : Array Oper} {o : Oper} {ao : AOp} (hc : compOp P ns A N ops o = some ao)
    {st st' : St} {a : Act} (hs : Sim (num ns) n0 N G st a w) (hev : evOp orc ao st = some st') {next : Act → World → Prop} {Q : Exit → Act → World → Prop}
    (hn : ∀ G' v w', Sim (num ns) n0 N G' st' (a.put o.dst v) w' → Evo G w G' w' → next (a.put o.dst v) w') :
    (Region.wanted o (yielded ops a.tmps) = true ∧ o.wp P a w next Q) ∨ (Region.wanted o (yielded ops a.tmps) = false ∧ next (a.put o.dst undef) w) := by
  obtain ⟨args, h1, h2, h3, h4, _⟩ := compOp_inv hc
  unfold evOp at hev
  split at hev
  · simp at hev
  · rename_i hw
    right
    refine ⟨wanted_sound hc hs.env hw, ?_⟩
    simp at hev; subst hev
    refine hn G _ w ⟨?_, hs.inv, hs.marks.evo (Evo.refl G w) (put_defers _ _ _)⟩ (Evo.refl G w)
    simp only [h3]
    exact hs.env.put h4 (by simp [RelA])
  · rename_i hw
    left
    refine ⟨wanted_sound hc hs.env hw, ?_⟩
    split at hev
    · simp at hev
    · rename_i vals hv
      split at hev
      · simp at hev
      · rename_i out ho
        simp at hev; subst hev
        have hr := opds_rel hs.env h2 hv
        refine exec_wp hB horc h1 hr hs.inv ho ?_
        intro v w' G' g1 g2 g3 g4
        refine hn G' _ w' ⟨?_, g2, hs.marks.evo g4 (put_defers _ _ _)⟩ g4
        simp only [h3]
        exact (hs.env.mono g3).put h4 g1

/-- A region in the order of its text. -/
theorem evOps_list (hB : Bodies P ns) {orc : Orc} (horc : OrcOk P ns orc) {A : Ann} {N : Nat} {ops : Array Oper} {Q : Exit → Act → World → Prop} : ∀ {l : List Oper} {as : List AOp} {st st' : St} {G : Gh} {a : Act} {w : World},
    mapO (compOp P ns A N ops) l = some as → Sim (num ns) n0 N G st a w → evOps orc as st = some st' →
    (∀ G' a' w', Sim (num ns) n0 N G' st' a' w' → Evo G w G' w' → Q .normal a' w') → wpList P ops Q l a w
  | [], as, st, st', G, a, w, hc, hs, hev, hq => by
    simp [mapO] at hc; subst hc
    simp [evOps] at hev; subst hev
    exact hq G a w hs (Evo.refl G w)
  | o :: l, as, st, st', G, a, w, hc, hs, hev, hq => by
    simp only [mapO] at hc
    split at hc
    · rename_i ao aos h1 h2
      simp at hc; subst hc
      simp only [evOps] at hev
      split at hev
      · simp at hev
      · rename_i st1 hst1
        unfold wpList
        have := evOp_sound (Q := Q) (next := wpList P ops Q l) hB horc h1 hs hst1 (fun G' a' w' hs' he => evOps_list hB horc h2 hs' hev (fun G'' a'' w'' hs'' he' => hq G'' a'' w'' hs'' (he.trans he')))
        rcases this with ⟨hw, hp⟩ | ⟨hw, hp⟩
        · rw [if_pos hw]; exact .inl hp
        · rw [hw, if_neg (by simp)]; exact hp
    · simp at hc

end
end Go.Ab
