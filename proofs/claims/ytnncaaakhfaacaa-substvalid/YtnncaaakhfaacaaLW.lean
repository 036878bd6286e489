import Derived.Test.YtnncaaakhfaacaaLT
/-
  Chapter 13: valid and idempotent substitutions.
  Chapter 13: idempotent substitutions; the law SubstValid.
  Chapter 13: what a list of raw assignments looks like.
-/
set_option linter.unusedVariables false
set_option linter.unusedSimpArgs false
namespace Go.Ab.Lw
open Ev
set_option maxRecDepth 10000
set_option linter.unusedSimpArgs false

/-! ### Slices of slices -/
theorem slHi {sz : Nat} {l : List PV} {k : IntKind} {h : Int} (h0 : 0 ≤ h) (h1 : h ≤ l.length) : evSlice false sz false true false [.pv (.lst l), .pv (.int k h)] = some (.pv (.lst (l.take h.toNat))) := by
  simp [evSlice, elsOf, evBounds, h0, h1]
theorem slHiO {sz τ : Nat} {l : List PV} {k : IntKind} {h : Int} (h0 : 0 ≤ h) (h1 : h ≤ l.length) : evSlice false sz false true false [.own l τ, .pv (.int k h)] = some (.pv (.lst (l.take h.toNat))) := by
  simp [evSlice, elsOf, evBounds, h0, h1]

/-! ### Containing, for assignments -/
def R104g (F : AV) (s : List As) (sh : Sh) (i : Nat) : Option Nat → Option (AExit × St)
  | some k => some (.ret, ⟨[(4, .pv (vI (i + k : Nat)))], [], sh, []⟩)
  | none => some (.exit 0, ⟨[(0, .pv (.lst (s.map As.pv))), (1, F), (7, .pv (vI s.length)), (8, .pv (vI s.length)), (9, .pv (.bool false))], [], sh, []⟩)
theorem L104g {s : List As} (hS : Sm s) {sh : Sh} (hq : Quiet sh) {g : Nat} {cap : List AV} {p : As → Bool} (hcap : flatB.flatL cap = true) (hpass : passB.passL cap = true) (harg : argsOf [] 1 cap = cap) (hnrm : ∀ old ts, normL old ts cap = (cap, old, ts)) (hpo : cap.all passO = true)
    (hf : ∀ x ∈ s, (orcL AP).i g (.pv x.pv :: cap) sh [] = some ([.pv (.bool (p x))], sh, [])) : ∀ (n i : Nat), s.length - i = n → i ≤ s.length →
    cl AP g104L0 ⟨[(0, .pv (.lst (s.map As.pv))), (1, .fn g cap), (7, .pv (vI s.length)), (8, .pv (vI i))], [], sh, []⟩ = R104g (.fn g cap) s sh i (idxB p (s.drop i))
  | 0, i, hn, hi => by
    have : i = s.length := by omega
    subst this
    rw [g104L0_eq]
    simp [g104B0, idxB, R104g, hq.norm, hcap]
  | n + 1, i, hn, hi => by
    have hi : i < s.length := by omega
    obtain ⟨x, hx⟩ := getO hi
    unfold Sm at hS
    have ih := L104g hS hq hcap hpass harg hnrm hpo hf n (i + 1) (by omega) (by omega)
    simp at ih
    have hc := hf x (memO hx)
    simp at hc
    rw [g104L0_eq, dropC hx]
    cases e : p x with
    | true =>
      rw [e] at hc
      simp (disch := omega) [-getElem?_pos, g104B0, hx, hi, e, idxB, R104g, hq.norm, hq.shift, hc, hcap, hpass, harg, hnrm, hpo]
    | false =>
      rw [e] at hc
      simp (disch := omega) [-getElem?_pos, g104B0, hx, hi, e, idxB, wrap_id, hq.norm, hq.shift, hc, ih, hcap, hpass, harg, hnrm, hpo]
      cases idxB p (s.drop (i + 1)) with
      | none => rfl
      | some k => simp [R104g]; omega
theorem c89 {s : List As} (hS : Sm s) {sh : Sh} (hq : Quiet sh) {g : Nat} {cap : List AV} {p : As → Bool} (hcap : flatB.flatL cap = true) (hpass : passB.passL cap = true) (harg : argsOf [] 1 cap = cap) (hnrm : ∀ old ts, normL old ts cap = (cap, old, ts)) (hpo : cap.all passO = true)
    (hf : ∀ x ∈ s, (orcL AP).i g (.pv x.pv :: cap) sh [] = some ([.pv (.bool (p x))], sh, [])) : (orcL AP).i 89 [.pv (.lst (s.map As.pv)), .fn g cap] sh [] = some ([.pv (.bool (s.any p))], sh, []) := by
  have h := L104g hS hq hcap hpass harg hnrm hpo hf _ 0 rfl (by omega)
  simp at h
  have c104 : (orcL AP).i 104 [.pv (.lst (s.map As.pv)), .fn g cap] sh [] = some ([.pv (vI (match idxB p s with | some k => k | none => -1))], sh, []) := by
    rw [callI_body (af := g104) rfl (by simp [g104])]
    cases hi : idxB p s with
    | none => rw [hi] at h; simp [R104g] at h; simp [g104, h, hq.norm, hcap]
    | some k => rw [hi] at h; simp [R104g] at h; simp [g104, h, hq.norm, hcap]
  rw [callI_body (af := g89) rfl (by simp [g89])]
  cases hi : idxB p s with
  | none =>
    rw [hi] at c104
    have : s.any p = false := by rw [List.any_eq_false]; intro x hx; rw [idxB_none.1 hi x hx]; simp
    simp [g89, c104, hq.norm, hq.shift, hcap, hpass, hnrm, this]
  | some k =>
    rw [hi] at c104
    have : s.any p = true := by
      cases e : s.any p with
      | true => rfl
      | false => rw [List.any_eq_false] at e; have := idxB_none.2 (fun x hx => by simpa using e x hx); rw [hi] at this; cases this
    simp [g89, c104, hq.norm, hq.shift, hcap, hpass, hnrm, this]

/-! ### Valid -/
def vldS : List As → List As → Bool
  | _, [] => true
  | p, a :: r => !hasA p a.id && validT (tyVar a.id) && validT a.ty && vldS (p ++ [a]) r

theorem tyVar_nm {n : Int} : (tyVar n).Nm := ⟨by simp [tyVar, SmS], by simp [tyVar]⟩
def R42 (s : List As) (b : Bool) : Option (AExit × St) :=
  if b = true then some (.exit 0, ⟨[(0, .pv (.lst (s.map As.pv))), (3, .pv (vI s.length)), (7, .pv (.bool false))], [], [], []⟩) else some (.ret, ⟨[(2, .pv (.bool false))], [], [], []⟩)
theorem L42 {s : List As} (hS : Sm s) (hO : ∀ x ∈ s, x.ty.Ok ∧ x.ty.Nm) : ∀ (n i : Nat), s.length - i = n → i ≤ s.length →
    cl AP g42L0 ⟨[(0, .pv (.lst (s.map As.pv))), (3, .pv (vI i))], [], [], []⟩ = R42 s (vldS (s.take i) (s.drop i))
  | 0, i, hn, hi => by
    have : i = s.length := by omega
    subst this
    rw [g42L0_eq]
    simp [g42B0, vldS, R42]
  | n + 1, i, hn, hi => by
    have hi : i < s.length := by omega
    obtain ⟨x, hx⟩ := getO hi
    unfold Sm at hS
    have ih := L42 hS hO n (i + 1) (by omega) (by omega)
    rw [List.take_add_one, hx] at ih
    simp at ih
    have k1 := c65 (s := s.take i) (by simp [Sm]; omega) x.id
    have k2 := c63 (n := x.id)
    have k3 := c30 (tyVar_ok (n := x.id)) tyVar_nm
    have k4 := c30 (hO x (memO hx)).1 (hO x (memO hx)).2
    have hv : tyVar x.id = ⟨1, [], x.id, 0, []⟩ := rfl
    rw [← hv] at k2
    rw [List.map_take] at k1
    simp at k2 k3 k4
    rw [g42L0_eq, dropC hx]
    cases e1 : hasA (s.take i) x.id
    · cases e2 : validT (tyVar x.id)
      · rw [e1] at k1; rw [e2] at k3
        simp (disch := first | omega | (simp; omega)) [-getElem?_pos, g42B0, hx, hi, k1, k2, k3, k4, vldS, e1, e2, R42, slHi]
      · cases e3 : validT x.ty
        · rw [e1] at k1; rw [e2] at k3; rw [e3] at k4
          simp (disch := first | omega | (simp; omega)) [-getElem?_pos, g42B0, hx, hi, k1, k2, k3, k4, vldS, e1, e2, e3, R42, slHi]
        · rw [e1] at k1; rw [e2] at k3; rw [e3] at k4
          simp (disch := first | omega | (simp; omega)) [-getElem?_pos, g42B0, hx, hi, k1, k2, k3, k4, vldS, e1, e2, e3, slHi, wrap_id, ih]
    · rw [e1] at k1
      simp (disch := first | omega | (simp; omega)) [-getElem?_pos, g42B0, hx, hi, k1, vldS, e1, R42, slHi]
theorem c42 {s : List As} (hS : Sm s) (hO : ∀ x ∈ s, x.ty.Ok ∧ x.ty.Nm) : (orcL AP).p 42 [.lst (s.map As.pv)] = some [.bool (vldS [] s)] := by
  have h := L42 hS hO _ 0 rfl (by omega)
  simp at h
  rw [callP_body (af := g42) rfl rfl (by decide)]
  cases e : vldS [] s <;> simp [e, R42] at h <;> simp [g42, h]
def R41 (s : List As) (b : Bool) : Option (AExit × St) :=
  if b = true then some (.exit 0, ⟨[(0, .pv (.lst (s.map As.pv))), (7, .pv (.lst (s.map As.pv))), (8, .pv (vI s.length)), (9, .pv (vI s.length)), (10, .pv (.bool false))], [], [], []⟩) else some (.ret, ⟨[(2, .pv (.bool false))], [], [], []⟩)
theorem L41 {s : List As} (hS : Sm s) (hO : ∀ x ∈ s, x.ty.Ok ∧ x.ty.Nm) : ∀ (n i : Nat), s.length - i = n → i ≤ s.length →
    cl AP g41L0 ⟨[(0, .pv (.lst (s.map As.pv))), (7, .pv (.lst (s.map As.pv))), (8, .pv (vI s.length)), (9, .pv (vI i))], [], [], []⟩ = R41 s (vldS (s.take i) (s.drop i))
  | 0, i, hn, hi => by
    have : i = s.length := by omega
    subst this
    rw [g41L0_eq]
    simp [g41B0, vldS, R41]
  | n + 1, i, hn, hi => by
    have hi : i < s.length := by omega
    obtain ⟨x, hx⟩ := getO hi
    unfold Sm at hS
    have ih := L41 hS hO n (i + 1) (by omega) (by omega)
    rw [List.take_add_one, hx] at ih
    simp at ih
    have k1 := c64 (s := s.take i) (by simp [Sm]; omega) x.id
    have k2 := c87 (n := x.id)
    have k3 := c29 (tyVar_ok (n := x.id)) tyVar_nm
    have k4 := c29 (hO x (memO hx)).1 (hO x (memO hx)).2
    rw [List.map_take] at k1
    simp at k1 k2 k3 k4
    rw [g41L0_eq, dropC hx]
    cases e1 : hasA (s.take i) x.id
    · cases e2 : validT (tyVar x.id)
      · rw [e1] at k1; rw [e2] at k3
        simp (disch := first | omega | (simp; omega)) [-getElem?_pos, g41B0, hx, hi, k1, k2, k3, k4, vldS, e1, e2, R41, slHi]
      · cases e3 : validT x.ty
        · rw [e1] at k1; rw [e2] at k3; rw [e3] at k4
          simp (disch := first | omega | (simp; omega)) [-getElem?_pos, g41B0, hx, hi, k1, k2, k3, k4, vldS, e1, e2, e3, R41, slHi]
        · rw [e1] at k1; rw [e2] at k3; rw [e3] at k4
          simp (disch := first | omega | (simp; omega)) [-getElem?_pos, g41B0, hx, hi, k1, k2, k3, k4, vldS, e1, e2, e3, slHi, wrap_id, ih]
    · rw [e1] at k1
      simp (disch := first | omega | (simp; omega)) [-getElem?_pos, g41B0, hx, hi, k1, vldS, e1, R41, slHi]
theorem c41 {s : List As} (hS : Sm s) (hO : ∀ x ∈ s, x.ty.Ok ∧ x.ty.Nm) : (orcL AP).p 41 [.lst (s.map As.pv)] = some [.bool (vldS [] s)] := by
  have h := L41 hS hO _ 0 rfl (by omega)
  simp at h
  rw [callP_body (af := g41) rfl rfl (by decide)]
  cases e : vldS [] s <;> simp [e, R41] at h <;> simp [g41, h]
end Go.Ab.Lw

namespace Go.Ab.Lw
open Ev
set_option maxRecDepth 10000
set_option linter.unusedSimpArgs false

/-! ### Idempotent -/
noncomputable def idmR (s : List As) : List As → List As → Bool
  | _, [] => true
  | p, a :: r => (hasA p a.id || decide (a.ty.sub s = a.ty)) && idmR s (p ++ [a]) r
def R44 (s : List As) (b : Bool) : Option (AExit × St) :=
  if b = true then some (.exit 0, ⟨[(0, .pv (.lst (s.map As.pv))), (3, .pv (vI s.length)), (7, .pv (.bool false))], [], [], []⟩) else some (.ret, ⟨[(2, .pv (.bool false))], [], [], []⟩)
theorem L44 {s : List As} (hS : Sm s) (hO : ∀ x ∈ s, x.ty.Ok) : ∀ (n i : Nat), s.length - i = n → i ≤ s.length →
    cl AP g44L0 ⟨[(0, .pv (.lst (s.map As.pv))), (3, .pv (vI i))], [], [], []⟩ = R44 s (idmR s (s.take i) (s.drop i))
  | 0, i, hn, hi => by
    have : i = s.length := by omega
    subst this
    rw [g44L0_eq]
    simp [g44B0, idmR, R44]
  | n + 1, i, hn, hi => by
    have hi : i < s.length := by omega
    obtain ⟨x, hx⟩ := getO hi
    have ih := L44 hS hO n (i + 1) (by omega) (by omega)
    rw [List.take_add_one, hx] at ih
    simp at ih
    have k1 := c65 (s := s.take i) (by simp [Sm]; unfold Sm at hS; omega) x.id
    have k2 := c22 hS (hO x (memO hx))
    have k3 := c20 (a := x.ty.sub s) (b := x.ty) (sub_ok hO (hO x (memO hx)))
    unfold Sm at hS
    rw [List.map_take] at k1
    simp at k2 k3
    rw [g44L0_eq, dropC hx]
    cases e1 : hasA (s.take i) x.id
    · rw [e1] at k1
      by_cases e2 : x.ty.sub s = x.ty
      · rw [decide_eq_true e2] at k3
        simp (disch := first | omega | (simp; omega)) [-getElem?_pos, g44B0, hx, hi, k1, k2, k3, idmR, e1, slHi, wrap_id, ih, decide_eq_true e2]
      · rw [decide_eq_false e2] at k3
        simp (disch := first | omega | (simp; omega)) [-getElem?_pos, g44B0, hx, hi, k1, k2, k3, idmR, e1, slHi, R44, decide_eq_false e2]
    · rw [e1] at k1
      simp (disch := first | omega | (simp; omega)) [-getElem?_pos, g44B0, hx, hi, k1, idmR, e1, slHi, wrap_id, ih]
theorem c44 {s : List As} (hS : Sm s) (hO : ∀ x ∈ s, x.ty.Ok) : (orcL AP).p 44 [.lst (s.map As.pv)] = some [.bool (idmR s [] s)] := by
  have h := L44 hS hO _ 0 rfl (by omega)
  simp at h
  rw [callP_body (af := g44) rfl rfl (by decide)]
  cases e : idmR s [] s <;> simp [e, R44] at h <;> simp [g44, h]

noncomputable def idmV (s : List As) (a : As) : Bool := decide (((tyVar a.id).sub s).sub s = (tyVar a.id).sub s)
theorem c90 {s : List As} (hS : Sm s) (hO : ∀ x ∈ s, x.ty.Ok) (hW : ∀ x ∈ s, x.ty.Wf) {sh : Sh} (hq : Quiet sh) (h0 : sh[0]? = some (some [.pv (.lst (s.map As.pv))])) (a : As) : (orcL AP).i 90 [.pv a.pv, .sptr 0 0] sh [] = some ([.pv (.bool (!idmV s a))], sh, []) := by
  have k0 := c87 (n := a.id)
  have k1 := c21 hS (tyVar_ok (n := a.id)) tyVar_wf
  have o := sub_ok hO (tyVar_ok (n := a.id))
  have w := sub_wf hW (tyVar_wf (n := a.id))
  have k2 := c21 hS o w
  have k3 := c33e (a := ((tyVar a.id).sub s).sub s) (b := (tyVar a.id).sub s) (sub_ok hO o)
  rw [callI_body (af := g90) rfl (by simp [g90])]
  simp at k0 k1 k2 k3
  simp [g90, h0, hq.norm, hq.shift, k0, k1, k2, k3, idmV]
theorem c43 {s : List As} (hS : Sm s) (hO : ∀ x ∈ s, x.ty.Ok) (hW : ∀ x ∈ s, x.ty.Wf) : (orcL AP).p 43 [.lst (s.map As.pv)] = some [.bool (s.all (idmV s))] := by
  have hq : Quiet [some [.pv (.lst (s.map As.pv))]] := by
    intro cs hc v hv; simp at hc; subst hc; simp at hv; exact ⟨_, hv⟩
  have h := c89 hS hq (g := 90) (cap := [.sptr 0 0]) (p := fun x => !idmV s x) rfl rfl rfl (fun _ _ => rfl) rfl (fun x _ => c90 hS hO hW hq rfl x)
  have e := any_not (p := idmV s) (l := s)
  rw [callP_body (af := g43) rfl rfl (by decide)]
  simp only [← e]
  simp [g43, h]

theorem hasA_iff {s : List As} {id : Int} : hasA s id = true ↔ ∃ t, fnd s id = some t := by
  simp [hasA, Option.isSome_iff_exists]
theorem fnd_none {s : List As} {id : Int} : fnd s id = none ↔ ∀ a ∈ s, a.id ≠ id := by
  induction s with
  | nil => simp [fnd]
  | cons a r ih =>
    simp only [fnd]
    by_cases e : a.id = id
    · simp [e]
    · simp [e, ih]
theorem idmR_iff {s : List As} : ∀ {r p : List As}, idmR s p r = true ↔ ∀ id t, fnd p id = none → fnd r id = some t → t.sub s = t
  | [], p => by simp [idmR, fnd]
  | a :: r, p => by
    simp only [idmR, Bool.and_eq_true, Bool.or_eq_true, decide_eq_true_eq]
    rw [idmR_iff]
    constructor
    · rintro ⟨h1, h2⟩ id t hp hr
      simp only [fnd] at hr
      by_cases e : a.id = id
      · rw [if_pos e] at hr
        cases hr
        rcases h1 with h1 | h1
        · rw [hasA_iff] at h1; obtain ⟨u, hu⟩ := h1; rw [e, hp] at hu; cases hu
        · exact h1
      · rw [if_neg e] at hr
        refine h2 id t ?_ hr
        rw [fnd_app, hp]
        simp [fnd, e]
    · intro h
      refine ⟨?_, fun id t hp hr => ?_⟩
      · cases e : fnd p a.id with
        | none => right; exact h a.id a.ty e (by simp [fnd])
        | some u => left; exact hasA_iff.2 ⟨u, e⟩
      · rw [fnd_app] at hp
        cases e : fnd p id with
        | some u => rw [e] at hp; simp at hp
        | none =>
          rw [e] at hp
          simp [fnd] at hp
          exact h id t e (by simp [fnd, hp, hr])
theorem idm_same {s : List As} : s.all (idmV s) = idmR s [] s := by
  rw [Bool.eq_iff_iff, idmR_iff]
  simp only [List.all_eq_true, idmV, decide_eq_true_eq]
  have var : ∀ id, (tyVar id).sub s = (fnd s id).getD (tyVar id) := by intro id; rw [Ty.sub_eq]; simp [tyVar]
  constructor
  · intro h id t _ ht
    have : ∃ a ∈ s, a.id = id := by
      cases e : decide (∃ a ∈ s, a.id = id)
      · have e := of_decide_eq_false e
        have : fnd s id = none := fnd_none.2 fun a ha h => e ⟨a, ha, h⟩
        rw [this] at ht; cases ht
      · exact of_decide_eq_true e
    obtain ⟨a, ha, rfl⟩ := this
    have := h a ha
    rw [var, ht] at this
    exact this
  · intro h a ha
    rw [var]
    cases e : fnd s a.id with
    | none => simp only [Option.getD_none]; rw [var, e]; rfl
    | some t => exact h a.id t rfl e

theorem validT_wf (t : Ty) : validT t = true → t.Wf := by
  refine Ty.rec1 (p := fun t => validT t = true → t.Wf) ?_ t
  intro t ih h
  rw [validT_eq] at h
  by_cases k1 : t.kind = 1
  · simp [k1] at h
    exact ⟨fun _ => h.1.1.1.2, by rw [h.1.1.1.2]; simp⟩
  · refine ⟨fun e => absurd e k1, fun x hx => ?_⟩
    by_cases k4 : t.kind = 4
    · simp [k4] at h
      exact ih x hx (h.2 x hx)
    · have : t.args = [] := by
        by_cases k2 : t.kind = 2
        · simp [k2] at h; exact h.1.1.1.2
        · by_cases k3 : t.kind = 3
          · simp [k3] at h; exact h.1.1.1.1.2
          · by_cases k5 : t.kind = 5
            · simp [k5] at h; exact h.1.1.1
            · simp [k1, k2, k3, k4, k5] at h
      rw [this] at hx; cases hx
theorem vldS_types {s : List As} : ∀ {p : List As}, vldS p s = true → ∀ a ∈ s, validT a.ty = true := by
  induction s with
  | nil => intro p _ a ha; cases ha
  | cons x r ih =>
    intro p h a ha
    simp only [vldS, Bool.and_eq_true] at h
    simp at ha
    rcases ha with rfl | ha
    · exact h.1.2
    · exact ih h.2 a ha

/-- What the law compares for one substitution. -/
theorem both {s : List As} (hS : Sm s) (hO : ∀ x ∈ s, x.ty.Ok ∧ x.ty.Nm) : vldS [] s = true → (orcL AP).p 43 [.lst (s.map As.pv)] = some [.bool (idmR s [] s)] ∧ (orcL AP).p 44 [.lst (s.map As.pv)] = some [.bool (idmR s [] s)] := by
  intro h
  have hW : ∀ x ∈ s, x.ty.Wf := fun x hx => validT_wf _ (vldS_types h x hx)
  rw [← idm_same]
  refine ⟨c43 hS (fun x hx => (hO x hx).1) hW, ?_⟩
  rw [idm_same]
  exact c44 hS (fun x hx => (hO x hx).1)

/-- Small raw assignments. -/
def smA (s : List As) : Bool := s.all fun a => decide (0 < smT a.ty 31)
def R10a (b : Int) (L : List Int) (s : List As) (ok : Bool) : Option (AExit × St) :=
  if ok = true then some (.exit 0, ⟨[(0, .pv (vI b)), (1, .pv (.lst (L.map vI))), (2, .pv (.lst (s.map As.pv))), (7, .pv (vI s.length)), (27, .pv (.bool false))], [], [], []⟩) else some (.ret, ⟨[(6, .pv (.bool true))], [], [], []⟩)
theorem L10a {b : Int} {L : List Int} {s : List As} (hS : Sm s) : ∀ (n i : Nat), s.length - i = n → i ≤ s.length →
    cl AP g10L0 ⟨[(0, .pv (vI b)), (1, .pv (.lst (L.map vI))), (2, .pv (.lst (s.map As.pv))), (7, .pv (vI i))], [], [], []⟩ = R10a b L s (smA (s.drop i))
  | 0, i, hn, hi => by
    have : i = s.length := by omega
    subst this
    rw [g10L0_eq]
    simp [g10B0, smA, R10a]
  | n + 1, i, hn, hi => by
    have hi : i < s.length := by omega
    obtain ⟨x, hx⟩ := getO hi
    unfold Sm at hS
    have ih := L10a (b := b) (L := L) hS n (i + 1) (by omega) (by omega)
    simp at ih
    have k := c40 (t := x.ty) (n := 30) (by omega) (by omega)
    simp at k
    have e : smA (x :: s.drop (i + 1)) = (decide (0 < smT x.ty 31) && smA (s.drop (i + 1))) := rfl
    rw [g10L0_eq, dropC hx, e]
    by_cases h : 0 < smT x.ty 31
    · rw [decide_eq_true h] at k ⊢
      simp (disch := omega) [-getElem?_pos, g10B0, hx, hi, k, wrap_id, ih]
    · rw [decide_eq_false h] at k ⊢
      simp (disch := omega) [-getElem?_pos, g10B0, hx, hi, k, R10a]

theorem L10b {sh : Sh} (hq : Calm sh) (hs : ∀ n, shiftS n sh = sh) {l : List (List As)} (hl : l.length ≤ 10) (hO : ∀ s ∈ l, Sm s ∧ ∀ x ∈ s, x.ty.Ok ∧ x.ty.Nm) : ∀ (n i : Nat), l.length - i = n → i ≤ l.length →
    cl AP g10L1 ⟨[(51, .own (l.map fun s => .lst (s.map As.pv)) 0), (52, .pv (vI l.length)), (53, .pv (vI i))], [], sh, [l.length]⟩ =
      some (.exit 2, ⟨[(51, .own (l.map fun s => .lst (s.map As.pv)) 0), (52, .pv (vI l.length)), (53, .pv (vI l.length)), (54, .pv (.bool false))], [], sh, [l.length]⟩)
  | 0, i, hn, hi => by
    have : i = l.length := by omega
    subst this
    unfold Calm at hq
    rw [g10L1_eq]
    simp [g10B1, hq]
  | n + 1, i, hn, hi => by
    have hi : i < l.length := by omega
    obtain ⟨s, hx⟩ := getO hi
    obtain ⟨hS, hO'⟩ := hO s (memO hx)
    have ih := L10b hq hs hl hO n (i + 1) (by omega) (by omega)
    unfold Calm at hq
    have k1 := c41 hS hO'
    have k2 := c42 hS hO'
    rw [g10L1_eq] at ih ⊢
    simp [hq] at ih
    cases e : vldS [] s
    · rw [e] at k1 k2
      simp (disch := omega) [-getElem?_pos, g10B1, hx, hi, hq, k1, k2, wrap_id]
      rw [g10L1_eq]
      simp [ih, hq]
    · obtain ⟨k3, k4⟩ := both hS hO' e
      rw [e] at k1 k2
      simp (disch := omega) [-getElem?_pos, g10B1, hx, hi, hq, k1, k2, k3, k4, wrap_id]
      rw [g10L1_eq]
      simp [ih, hq]

theorem leavesS_nm : ∀ t, t ∈ leavesS → SmS t.name ∧ t.args = [] := by
  intro t ht
  refine ⟨?_, leavesS_bare t ht⟩
  simp [leavesS] at ht
  rcases ht with rfl | rfl | rfl | rfl | rfl | rfl <;> simp [tyVar, tyRigid, SmS]

/-- **The law SubstValid.** -/
theorem law10 (bits : Int) (L : List Int) (raw : List As) (rn : ∀ a ∈ raw, a.ty.Nm) : (orcL AP).p 10 [vI bits, .lst (L.map vI), .lst (raw.map As.pv)] = some [.bool true] := by
  have c0 := c14
  have c1 := c15 (l := L)
  rw [callP_body (af := g10) rfl rfl (by decide)]
  by_cases hL : L.length ≤ 60
  · simp [hL] at c1
    by_cases hR : raw.length ≤ 6
    · have hLs : Sm L := by unfold Sm; omega
      have hRs : Sm raw := by unfold Sm; omega
      have hR' : ¬ ((6 : Int) < raw.length) := by omega
      have h0 := L10a (b := bits) (L := L) hRs _ 0 rfl (by omega)
      rw [g10L0_eq] at h0
      simp at h0
      cases es : smA raw
      · rw [es] at h0
        simp [R10a] at h0
        simp [g10, c0, c1, hR', g10L0_eq, h0]
      · rw [es] at h0
        simp [R10a] at h0
        obtain ⟨a, b, t, j, e, ⟨a1, a2, _⟩, ⟨b1, b2, _⟩, mt, hj⟩ := c16 (L := L) hLs bits
        have ao : ∀ x ∈ a, x.ty.Ok ∧ x.ty.Nm := fun x hx => ⟨(a2 x hx).1.ok leavesS_bare, (a2 x hx).1.nm leavesS_nm⟩
        have bo : ∀ x ∈ b, x.ty.Ok ∧ x.ty.Nm := fun x hx => ⟨(b2 x hx).1.ok leavesS_bare, (b2 x hx).1.nm leavesS_nm⟩
        have ro : ∀ x ∈ raw, x.ty.Ok ∧ x.ty.Nm := by
          intro x hx
          simp only [smA, List.all_eq_true, decide_eq_true_eq] at es
          exact ⟨smT_ok x.ty 31 (by omega) (by omega) (es x hx), rn x hx⟩
        have h1 := L10b (sh := tp L j) calm_tp (fun _ => rfl) (l := [raw, a, a ++ b]) (by simp) (by
          intro s hs; simp at hs
          rcases hs with rfl | rfl | rfl
          · exact ⟨hRs, ro⟩
          · exact ⟨by unfold Sm; omega, ao⟩
          · exact ⟨by simp [Sm]; omega, by intro x hx; simp at hx; rcases hx with hx | hx; exact ao x hx; exact bo x hx⟩) 3 0 rfl (by simp)
        rw [g10L1_eq] at h1
        simp at h1 e
        have m1 : a.length * 72 ≤ 140737488355328 := by omega
        have m2 : (a.length + b.length) * 72 ≤ 140737488355328 := by omega
        have m3 : b.length * 72 ≤ 140737488355328 := by omega
        cases a with
        | nil =>
          cases b with
          | nil =>
            simp at h1 e
            simp [g10, c0, c1, hR', g10L0_eq, h0, e, g10L1_eq, h1]
          | cons y r =>
            simp at h1 e m1 m2 m3
            simp [g10, c0, c1, hR', g10L0_eq, h0, e, g10L1_eq, h1, m1, m2, m3]
        | cons x q =>
          simp at h1 e m1 m2 m3
          simp [g10, c0, c1, hR', g10L0_eq, h0, e, g10L1_eq, h1, m1, m2, m3]
    · have hR' : (6 : Int) < raw.length := by omega
      simp [g10, c0, c1, hR']
  · simp [hL] at c1
    simp [g10, c0, c1]
end Go.Ab.Lw

namespace Go.Ab.Lw

/-- A raw list of assignments. -/
theorem shp_asN {P : Program} {ti ts tl tt ta tal : TypeId} {f0 f1 f2 f3 f4 k0 k1 : Field} (hi : P.underlying ti = some (.int .i64)) (hs : P.underlying ts = some .string) (hl : P.underlying tl = some (.slice tt))
    (ht : P.underlying tt = some (.struct #[f0, f1, f2, f3, f4])) (hal : P.underlying tal = some (.slice ta)) (ha : P.underlying ta = some (.struct #[k0, k1]))
    (e0 : f0.type = ti) (e1 : f1.type = ts) (e2 : f2.type = ti) (e3 : f3.type = ti) (e4 : f4.type = tl) (u0 : k0.type = ti) (u1 : k1.type = tt)
    (n : Nat) (p : PV) (h : Shp P n tal p) : ∃ l : List As, p = .lst (l.map As.pv) ∧ ∀ a ∈ l, a.ty.Nm := by
  cases n with
  | zero => simp [Shp] at h
  | succ n =>
    simp only [Shp, hal] at h
    obtain ⟨els, rfl, _, h⟩ := h
    have key : ∀ els : List PV, (∀ q ∈ els, Shp P n ta q) → ∃ l : List As, els = l.map As.pv ∧ ∀ a ∈ l, a.ty.Nm := by
      intro els
      induction els with
      | nil => intro _; exact ⟨[], rfl, by simp⟩
      | cons q r ih =>
        intro h
        have hq := h q (by simp)
        cases n with
        | zero => simp [Shp] at hq
        | succ n =>
          simp only [Shp, ha] at hq
          obtain ⟨ps, rfl, hq⟩ := hq
          match ps, hq with
          | [p0, p1], ⟨h0, h1, _⟩ =>
            rw [u0] at h0; rw [u1] at h1
            obtain ⟨i, rfl⟩ := shp_int hi h0
            obtain ⟨x, rfl, hx⟩ := shp_tyN hi hs hl ht e0 e1 e2 e3 e4 n p1 h1
            obtain ⟨l, rfl, hl⟩ := ih (fun q hq => h q (by simp [hq]))
            refine ⟨⟨i, x⟩ :: l, by simp [cellsP], ?_⟩
            intro y hy; simp at hy
            rcases hy with rfl | hy
            · exact hx
            · exact hl y hy
    obtain ⟨l, rfl, hl⟩ := key els h
    exact ⟨l, rfl, hl⟩
end Go.Ab.Lw

