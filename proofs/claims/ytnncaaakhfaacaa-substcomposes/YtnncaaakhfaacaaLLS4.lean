import Derived.Test.YtnncaaakhfaacaaLLS3
/-
  Substitutions: composing; equality of types and of substitutions.
-/
set_option linter.unusedVariables false
set_option linter.unusedSimpArgs false
namespace Go.Ab.Lw
open Ev
set_option maxRecDepth 10000
set_option linter.unusedSimpArgs false

noncomputable instance : DecidableEq As := fun _ _ => Classical.propDecidable _

/-! ### Equal -/
theorem L57 {as bs : List Ty} (hS : Sm as) (hl : as.length = bs.length) (h : ∀ x ∈ as, ∀ y, (orcL AP).p 20 [x.pv, y.pv] = some [.bool (decide (x = y))]) : ∀ (n i : Nat), as.length - i = n → i ≤ as.length →
    cl AP g57L0 ⟨[(0, .pv (.lst (as.map Ty.pv))), (1, .pv (.lst (bs.map Ty.pv))), (5, .pv (.int .i64 i))], [], [], []⟩ =
      if as.drop i = bs.drop i then some (.exit 0, ⟨[(0, .pv (.lst (as.map Ty.pv))), (1, .pv (.lst (bs.map Ty.pv))), (5, .pv (.int .i64 as.length)), (14, .pv (.bool false))], [], [], []⟩)
      else some (.ret, ⟨[(4, .pv (.bool false))], [], [], []⟩)
  | 0, i, hn, hi => by
    have : i = as.length := by omega
    subst this
    rw [g57L0_eq]
    simp [g57B0, hl]
  | n + 1, i, hn, hi => by
    have hi : i < as.length := by omega
    obtain ⟨x, hx⟩ := getO hi
    obtain ⟨y, hy⟩ := getO (hl ▸ hi)
    have hc := h x (memO hx) y
    simp at hc
    rw [g57L0_eq, dropC hx, dropC hy]
    unfold Sm at hS
    have ih := L57 hS hl h n (i + 1) (by omega) (by omega)
    simp at ih
    simp (disch := omega) [-getElem?_pos, g57B0, hx, hy, hi, hc, wrap_id, ih]
    by_cases e : x = y <;> simp [e]

theorem c57 {as bs : List Ty} (hS : Sm as) (h : ∀ x ∈ as, ∀ y, (orcL AP).p 20 [x.pv, y.pv] = some [.bool (decide (x = y))]) :
    (orcL AP).p 57 [.lst (as.map Ty.pv), .lst (bs.map Ty.pv)] = some [.bool (decide (as = bs))] := by
  rw [callP_body (af := g57) rfl rfl (by decide)]
  by_cases hl : as.length = bs.length
  · have hL := L57 hS hl h _ 0 rfl (by omega)
    simp at hL
    simp [g57, hl, hL]
    by_cases e : as = bs <;> simp [e]
  · have : ¬ as = bs := fun e => hl (by rw [e])
    simp [g57, hl, this]
    omega

theorem c20 {a b : Ty} (hO : a.Ok) : (orcL AP).p 20 [a.pv, b.pv] = some [.bool (decide (a = b))] := by
  revert b hO
  refine Ty.rec1 (p := fun a => ∀ {b : Ty}, a.Ok → (orcL AP).p 20 [a.pv, b.pv] = some [.bool (decide (a = b))]) ?_ a
  intro a ih b hO
  have h := c57 (bs := b.args) hO.sm (fun x hx y => ih x hx (hO.kid x hx))
  rw [callP_body (af := g20) rfl rfl (by decide)]
  simp [g20, h]
  cases a; cases b
  simp
  (repeat' split) <;> simp_all

/-! ### Compose -/
def comp (a b : List As) : List As := a.map (fun x => ⟨x.id, x.ty.sub b⟩) ++ b.filter (fun x => !hasA a x.id)

theorem L19a {a b : List As} (hS : a.length + b.length < 1099511627776) (hO : ∀ x ∈ a, x.ty.Ok) : ∀ (n i : Nat), a.length - i = n → i ≤ a.length → ∀ acc : List As, acc = (a.take i).map (fun x => ⟨x.id, x.ty.sub b⟩) →
    cl AP g19L0 ⟨[(0, .pv (.lst (a.map As.pv))), (1, .pv (.lst (b.map As.pv))), (5, .own (acc.map As.pv) 0), (6, .pv (vI i))], [], [], [acc.length]⟩ =
      some (.exit 0, ⟨[(0, .pv (.lst (a.map As.pv))), (1, .pv (.lst (b.map As.pv))), (5, .own ((a.map (fun x => (⟨x.id, x.ty.sub b⟩ : As))).map As.pv) 0), (6, .pv (vI a.length)), (11, .pv (.bool false))], [], [], [a.length]⟩)
  | 0, i, hn, hi, acc, ha => by
    have : i = a.length := by omega
    subst this
    subst ha
    rw [g19L0_eq]
    simp [g19B0]
  | n + 1, i, hn, hi, acc, ha => by
    have hi : i < a.length := by omega
    obtain ⟨x, hx⟩ := getO hi
    have hal : acc.length = i := by rw [ha]; simp; omega
    have hb : (acc.length + 1) * 72 ≤ 140737488355328 := by omega
    have hc := c22 (s := b) (by unfold Sm; omega) (hO x (memO hx))
    have ih := L19a hS hO n (i + 1) (by omega) (by omega) (acc ++ [⟨x.id, x.ty.sub b⟩]) (by rw [List.take_add_one, hx, ha]; simp)
    rw [g19L0_eq] at ih ⊢
    simp at ih hc
    simp (disch := omega) [-getElem?_pos, g19B0, hx, hi, hc, hb, wrap_id]
    rw [g19L0_eq]
    simp [ih]

theorem L19b {a b : List As} (hS : a.length + b.length < 1099511627776) : ∀ (n i : Nat), b.length - i = n → i ≤ b.length → ∀ acc : List As, acc.length ≤ a.length + i →
    cl AP g19L1 ⟨[(0, .pv (.lst (a.map As.pv))), (1, .pv (.lst (b.map As.pv))), (5, .own (acc.map As.pv) 0), (7, .pv (vI i))], [], [], [acc.length]⟩ =
      some (.exit 2, ⟨[(0, .pv (.lst (a.map As.pv))), (1, .pv (.lst (b.map As.pv))), (5, .own ((acc ++ (b.drop i).filter (fun x => !hasA a x.id)).map As.pv) 0), (7, .pv (vI b.length)), (33, .pv (.bool false))], [], [], [(acc ++ (b.drop i).filter (fun x => !hasA a x.id)).length]⟩)
  | 0, i, hn, hi, acc, ha => by
    have : i = b.length := by omega
    subst this
    rw [g19L1_eq]
    simp [g19B1]
  | n + 1, i, hn, hi, acc, ha => by
    have hi : i < b.length := by omega
    obtain ⟨x, hx⟩ := getO hi
    have hb : (acc.length + 1) * 72 ≤ 140737488355328 := by omega
    have hc := c65 (s := a) (by unfold Sm; omega) x.id
    rw [dropC hx]
    by_cases hh : hasA a x.id = true
    · have ih := L19b hS n (i + 1) (by omega) (by omega) acc (by omega)
      rw [g19L1_eq] at ih ⊢
      simp at ih
      simp (disch := omega) [-getElem?_pos, g19B1, hx, hi, hc, hh, wrap_id]
      rw [g19L1_eq]
      simp [ih, List.filter_cons, hh]
    · have hh : hasA a x.id = false := by simpa using hh
      have ih := L19b hS n (i + 1) (by omega) (by omega) (acc ++ [x]) (by simp; omega)
      rw [g19L1_eq] at ih ⊢
      simp at ih
      simp (disch := omega) [-getElem?_pos, g19B1, hx, hi, hc, hh, hb, wrap_id]
      rw [g19L1_eq]
      simp [ih, List.filter_cons, hh]

theorem c19 {a b : List As} (hS : a.length + b.length < 1099511627776) (hO : ∀ x ∈ a, x.ty.Ok) : (orcL AP).p 19 [.lst (a.map As.pv), .lst (b.map As.pv)] = some [.lst ((comp a b).map As.pv)] := by
  have h1 := L19a hS hO _ 0 rfl (by omega) [] (by simp)
  have h2 := L19b hS _ 0 rfl (by omega) (a.map (fun x => ⟨x.id, x.ty.sub b⟩)) (by simp)
  rw [g19L0_eq] at h1
  rw [g19L1_eq] at h2
  simp at h1 h2
  rw [callP_body (af := g19) rfl rfl (by decide)]
  simp [g19, g19L0_eq, h1, g19L1_eq, h2, comp]

theorem L17a {a b : List As} (hS : a.length + b.length < 1099511627776) (hO : ∀ x ∈ a, x.ty.Ok ∧ x.ty.Wf) : ∀ (n i : Nat), a.length - i = n → i ≤ a.length → ∀ acc : List As, acc = (a.take i).map (fun x => ⟨x.id, x.ty.sub b⟩) →
    cl AP g17L0 ⟨[(0, .pv (.lst (a.map As.pv))), (1, .pv (.lst (b.map As.pv))), (5, .own (acc.map As.pv) 0), (12, .pv (.lst (a.map As.pv))), (13, .pv (vI a.length)), (14, .pv (vI i))], [], [], [acc.length]⟩ =
      some (.exit 0, ⟨[(0, .pv (.lst (a.map As.pv))), (1, .pv (.lst (b.map As.pv))), (5, .own ((a.map (fun x => (⟨x.id, x.ty.sub b⟩ : As))).map As.pv) 0), (12, .pv (.lst (a.map As.pv))), (13, .pv (vI a.length)), (14, .pv (vI a.length)), (15, .pv (.bool false))], [], [], [a.length]⟩)
  | 0, i, hn, hi, acc, ha => by
    have : i = a.length := by omega
    subst this
    subst ha
    rw [g17L0_eq]
    simp [g17B0]
  | n + 1, i, hn, hi, acc, ha => by
    have hi : i < a.length := by omega
    obtain ⟨x, hx⟩ := getO hi
    have hal : acc.length = i := by rw [ha]; simp; omega
    have hb : (acc.length + 1) * 72 ≤ 140737488355328 := by omega
    have hc := c21 (s := b) (by unfold Sm; omega) (hO x (memO hx)).1 (hO x (memO hx)).2
    have ih := L17a hS hO n (i + 1) (by omega) (by omega) (acc ++ [⟨x.id, x.ty.sub b⟩]) (by rw [List.take_add_one, hx, ha]; simp)
    rw [g17L0_eq] at ih ⊢
    simp at ih hc
    simp (disch := omega) [-getElem?_pos, g17B0, hx, hi, hc, hb, wrap_id]
    rw [g17L0_eq]
    simp [ih]

theorem L17b {a b : List As} (hS : a.length + b.length < 1099511627776) : ∀ (n i : Nat), b.length - i = n → i ≤ b.length → ∀ acc : List As, acc.length ≤ a.length + i →
    cl AP g17L1 ⟨[(0, .pv (.lst (a.map As.pv))), (5, .own (acc.map As.pv) 0), (29, .pv (.lst (b.map As.pv))), (30, .pv (vI b.length)), (31, .pv (vI i))], [], [], [acc.length]⟩ =
      some (.exit 2, ⟨[(0, .pv (.lst (a.map As.pv))), (5, .own ((acc ++ (b.drop i).filter (fun x => !hasA a x.id)).map As.pv) 0), (29, .pv (.lst (b.map As.pv))), (30, .pv (vI b.length)), (31, .pv (vI b.length)), (32, .pv (.bool false))], [], [], [(acc ++ (b.drop i).filter (fun x => !hasA a x.id)).length]⟩)
  | 0, i, hn, hi, acc, ha => by
    have : i = b.length := by omega
    subst this
    rw [g17L1_eq]
    simp [g17B1]
  | n + 1, i, hn, hi, acc, ha => by
    have hi : i < b.length := by omega
    obtain ⟨x, hx⟩ := getO hi
    have hb : (acc.length + 1) * 72 ≤ 140737488355328 := by omega
    have hc := c64 (s := a) (by unfold Sm; omega) x.id
    rw [dropC hx]
    by_cases hh : hasA a x.id = true
    · have ih := L17b hS n (i + 1) (by omega) (by omega) acc (by omega)
      rw [g17L1_eq] at ih ⊢
      simp at ih hc
      simp (disch := omega) [-getElem?_pos, g17B1, hx, hi, hc, hh, wrap_id]
      rw [g17L1_eq]
      simp [ih, List.filter_cons, hh]
    · have hh : hasA a x.id = false := by simpa using hh
      have ih := L17b hS n (i + 1) (by omega) (by omega) (acc ++ [x]) (by simp; omega)
      rw [g17L1_eq] at ih ⊢
      simp at ih hc
      simp (disch := omega) [-getElem?_pos, g17B1, hx, hi, hc, hh, hb, wrap_id]
      rw [g17L1_eq]
      simp [ih, List.filter_cons, hh]

theorem c17 {a b : List As} (hS : a.length + b.length < 1099511627776) (hO : ∀ x ∈ a, x.ty.Ok ∧ x.ty.Wf) : (orcL AP).p 17 [.lst (a.map As.pv), .lst (b.map As.pv)] = some [.lst ((comp a b).map As.pv)] := by
  have h1 := L17a hS hO _ 0 rfl (by omega) [] (by simp)
  have h2 := L17b hS _ 0 rfl (by omega) (a.map (fun x => ⟨x.id, x.ty.sub b⟩)) (by simp)
  rw [g17L0_eq] at h1
  rw [g17L1_eq] at h2
  simp at h1 h2
  rw [callP_body (af := g17) rfl rfl (by decide)]
  simp [g17, g17L0_eq, h1, g17L1_eq, h2, comp]

/-! ### Same -/
theorem L18 {as bs : List As} (hS : Sm as) (hl : as.length = bs.length) (h : ∀ x ∈ as, x.ty.Ok) : ∀ (n i : Nat), as.length - i = n → i ≤ as.length →
    cl AP g18L0 ⟨[(0, .pv (.lst (as.map As.pv))), (1, .pv (.lst (bs.map As.pv))), (5, .pv (.int .i64 i))], [], [], []⟩ =
      if as.drop i = bs.drop i then some (.exit 0, ⟨[(0, .pv (.lst (as.map As.pv))), (1, .pv (.lst (bs.map As.pv))), (5, .pv (.int .i64 as.length)), (14, .pv (.bool false))], [], [], []⟩)
      else some (.ret, ⟨[(4, .pv (.bool false))], [], [], []⟩)
  | 0, i, hn, hi => by
    have : i = as.length := by omega
    subst this
    rw [g18L0_eq]
    simp [g18B0, hl]
  | n + 1, i, hn, hi => by
    have hi : i < as.length := by omega
    obtain ⟨x, hx⟩ := getO hi
    obtain ⟨y, hy⟩ := getO (hl ▸ hi)
    have hc := c20 (b := y.ty) (h x (memO hx))
    simp at hc
    rw [g18L0_eq, dropC hx, dropC hy]
    unfold Sm at hS
    have ih := L18 hS hl h n (i + 1) (by omega) (by omega)
    simp at ih
    have exy : x = y ↔ x.id = y.id ∧ x.ty = y.ty := by cases x; cases y; simp
    by_cases e1 : x.id = y.id
    · by_cases e2 : x.ty = y.ty
      · have e : x = y := exy.2 ⟨e1, e2⟩
        subst e
        simp at hc
        simp (disch := omega) [-getElem?_pos, g18B0, hx, hy, hi, hc, wrap_id, ih]
      · have e : ¬ x = y := fun e => e2 (exy.1 e).2
        rw [decide_eq_false e2] at hc
        simp (disch := omega) [-getElem?_pos, g18B0, hx, hy, hi, hc, wrap_id, ih, e, e1]
    · have e : ¬ x = y := fun e => e1 (exy.1 e).1
      simp (disch := omega) [-getElem?_pos, g18B0, hx, hy, hi, hc, wrap_id, ih, e, e1]

theorem c18 {as bs : List As} (hS : Sm as) (h : ∀ x ∈ as, x.ty.Ok) : (orcL AP).p 18 [.lst (as.map As.pv), .lst (bs.map As.pv)] = some [.bool (decide (as = bs))] := by
  rw [callP_body (af := g18) rfl rfl (by decide)]
  by_cases hl : as.length = bs.length
  · have hL := L18 hS hl h _ 0 rfl (by omega)
    simp at hL
    simp [g18, hl, hL]
    by_cases e : as = bs <;> simp [e]
  · have : ¬ as = bs := fun e => hl (by rw [e])
    simp [g18, hl, this]
    omega
end Go.Ab.Lw
