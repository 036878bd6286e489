import Derived.Test.YtnncaaakhfaacaaLLS2
/-
  Types and substitutions: the program's replacing, finding, composing.
-/
set_option linter.unusedVariables false
set_option linter.unusedSimpArgs false
namespace Go.Ab.Lw
open Ev
set_option maxRecDepth 10000
set_option linter.unusedSimpArgs false

def subLeaf (s : List As) (x : Ty) : Ty := if x.kind = 1 then (fnd s x.id).getD x else x

theorem rbl_sub {s : List As} {t : Ty} (h : t.Wf) : t.rbl (subLeaf s) = t.sub s := by
  revert h
  refine Ty.rec1 (p := fun t => t.Wf → t.rbl (subLeaf s) = t.sub s) ?_ t
  intro t ih h
  by_cases hn : t.args = []
  · rw [Ty.rbl_nil hn, Ty.sub_eq]
    unfold subLeaf
    split
    · rfl
    · cases t; simp at hn; simp [hn]
  · have hk : ¬ t.kind = 1 := fun e => hn (h.var e)
    rw [Ty.rbl_cons hn, Ty.sub_eq, if_neg hk]
    congr 1
    exact List.map_congr_left fun x hx => ih x hx (h.kid x hx)

def R92 (s : List As) (t : Ty) (sh : Sh) : Option Ty → Option (AExit × St)
  | some a => some (.ret, ⟨[(3, .lptr 3 0)], [(3, a.cl)], sh, [0]⟩)
  | none => some (.exit 0, ⟨[(2, .lptr 2 0), (3, .lptr 3 0), (9, .pv (.lst (s.map As.pv))), (10, .pv (vI s.length)), (11, .pv (vI s.length)), (12, .pv (.bool false))],
      [(2, t.cl), (3, [.pv (vI 0), .pv (.str []), .pv (vI 0), .pv (vI 0), .own [] 0])], sh, [0]⟩)
theorem L92 {s : List As} (hS : Sm s) (t : Ty) {sh : Sh} (hq : Quiet sh) : ∀ (n i : Nat), s.length - i = n → i ≤ s.length →
    cl AP g92L0 ⟨[(2, .lptr 2 0), (3, .lptr 3 0), (9, .pv (.lst (s.map As.pv))), (10, .pv (vI s.length)), (11, .pv (vI i))],
      [(2, t.cl), (3, [.pv (vI 0), .pv (.str []), .pv (vI 0), .pv (vI 0), .own [] 0])], sh, [0]⟩ = R92 s t sh (fnd (s.drop i) t.id)
  | 0, i, hn, hi => by
    have : i = s.length := by omega
    subst this
    rw [g92L0_eq]
    simp [g92B0, fnd, R92, Ty.cl, hq.norm]
  | n + 1, i, hn, hi => by
    have hi : i < s.length := by omega
    obtain ⟨x, hx⟩ := getO hi
    unfold Sm at hS
    have ih := L92 hS t hq n (i + 1) (by omega) (by omega)
    rw [g92L0_eq] at ih
    simp [Ty.cl, hq.norm] at ih
    rw [g92L0_eq, dropC hx]
    by_cases e : x.id = t.id
    · simp (disch := omega) [-getElem?_pos, g92B0, hx, hi, e, fnd, R92, Ty.cl, hq.norm]
    · simp (disch := omega) [-getElem?_pos, g92B0, hx, hi, e, fnd, wrap_id, Ty.cl, hq.norm]
      rw [g92L0_eq]
      simp [ih, hq.norm]

theorem c92 {s : List As} (hS : Sm s) : LeafF 92 [.sptr 0 0] [.pv (.lst (s.map As.pv))] (subLeaf s) := by
  intro sh x hq h0 hx
  rw [callI_body (af := g92) rfl (by simp [g92])]
  by_cases hk : x.kind = 1
  · have h := L92 hS x hq _ 0 rfl (by omega)
    rw [g92L0_eq] at h
    simp [Ty.cl, hq.norm] at h
    cases hf : fnd s x.id with
    | none =>
      rw [hf] at h
      simp [R92, Ty.cl, hx, hk] at h
      simp [g92, hk, h0, g92L0_eq, hq.norm, h, subLeaf, hf, hx, hq.shift]
    | some a =>
      rw [hf] at h
      simp [R92, Ty.cl, hx, hk] at h
      simp [g92, hk, h0, g92L0_eq, hq.norm, h, subLeaf, hf, hx, hq.shift]
  · simp [g92, hk, h0, hq.norm, subLeaf, hx, hq.shift]

theorem c45 {s : List As} (hS : Sm s) {t : Ty} (hO : t.Ok) (hW : t.Wf) : (orcL AP).p 45 [t.pv, .lst (s.map As.pv)] = some [(t.sub s).pv] := by
  have h := c91 (c92 hS) rfl rfl rfl (fun _ _ => rfl) rfl hO [some [.pv (.lst (s.map As.pv))]] (by intro cs hc v hv; simp at hc; subst hc; simp at hv; exact ⟨_, hv⟩) rfl
  rw [rbl_sub hW] at h
  simp at h
  rw [callP_body (af := g45) rfl rfl (by decide)]
  simp [g45, h]

/-! ### Apply -/
theorem c21 {s : List As} (hS : Sm s) {t : Ty} (hO : t.Ok) (hW : t.Wf) : (orcL AP).p 21 [.lst (s.map As.pv), t.pv] = some [(t.sub s).pv] := by
  have h := c45 hS hO hW
  simp at h
  rw [callP_body (af := g21) rfl rfl (by decide)]
  simp [g21, h]
theorem c22 {s : List As} (hS : Sm s) {t : Ty} (hO : t.Ok) : (orcL AP).p 22 [.lst (s.map As.pv), t.pv] = some [(t.sub s).pv] := by
  have h := c46 hS hO
  simp at h
  rw [callP_body (af := g22) rfl rfl (by decide)]
  simp [g22, h]

/-! ### Has and find -/
def hasA (s : List As) (id : Int) : Bool := (fnd s id).isSome
theorem hasA_nil (id : Int) : hasA [] id = false := rfl
theorem hasA_cons (a : As) (r : List As) (id : Int) : hasA (a :: r) id = (decide (a.id = id) || hasA r id) := by
  unfold hasA fnd
  by_cases e : a.id = id
  · simp [e]
  · simp only [if_neg e, decide_eq_false e, Bool.false_or]
    cases r <;> rfl

theorem L65 {s : List As} (hS : Sm s) (id : Int) : ∀ (n i : Nat), s.length - i = n → i ≤ s.length →
    cl AP g65L0 ⟨[(0, .pv (.lst (s.map As.pv))), (1, .pv (vI id)), (5, .pv (vI i))], [], [], []⟩ = if hasA (s.drop i) id = true then some (.ret, ⟨[(4, .pv (.bool true))], [], [], []⟩)
      else some (.exit 0, ⟨[(0, .pv (.lst (s.map As.pv))), (1, .pv (vI id)), (5, .pv (vI s.length)), (9, .pv (.bool false))], [], [], []⟩)
  | 0, i, hn, hi => by
    have : i = s.length := by omega
    subst this
    rw [g65L0_eq]
    simp [g65B0, hasA_nil]
  | n + 1, i, hn, hi => by
    have hi : i < s.length := by omega
    obtain ⟨x, hx⟩ := getO hi
    unfold Sm at hS
    have ih := L65 hS id n (i + 1) (by omega) (by omega)
    simp at ih
    rw [g65L0_eq, dropC hx]
    by_cases e : x.id = id
    · simp (disch := omega) [-getElem?_pos, g65B0, hx, hi, e, hasA_cons]
    · simp (disch := omega) [-getElem?_pos, g65B0, hx, hi, e, hasA_cons, wrap_id, ih]
theorem c65 {s : List As} (hS : Sm s) (id : Int) : (orcL AP).p 65 [.lst (s.map As.pv), vI id] = some [.bool (hasA s id)] := by
  have h := L65 hS id _ 0 rfl (by omega)
  simp at h
  rw [callP_body (af := g65) rfl rfl (by decide)]
  cases hh : hasA s id <;> simp [hh] at h <;> simp [g65, h]

theorem c105 {s : Sh} (hq : Quiet s) {id : Int} (h0 : s[0]? = some (some [.pv (vI id)])) (a : As) : (orcL AP).i 105 [.pv a.pv, .sptr 0 0] s [] = some ([.pv (.bool (a.id == id))], s, []) := by
  rw [callI_body (af := g105) rfl (by simp [g105])]
  simp [g105, h0, hq.norm, hq.shift]

/-- Where a variable is assigned first. -/
def idxA : List As → Int → Option Nat
  | [], _ => none
  | a :: r, id => if a.id = id then some 0 else (idxA r id).map (· + 1)
def R104 (F : AV) (s : List As) (sh : Sh) (i : Nat) : Option Nat → Option (AExit × St)
  | some k => some (.ret, ⟨[(4, .pv (vI (i + k : Nat)))], [], sh, []⟩)
  | none => some (.exit 0, ⟨[(0, .pv (.lst (s.map As.pv))), (1, F), (7, .pv (vI s.length)), (8, .pv (vI s.length)), (9, .pv (.bool false))], [], sh, []⟩)
theorem L104 {s : List As} (hS : Sm s) {sh : Sh} (hq : Quiet sh) {id : Int} (h0 : sh[0]? = some (some [.pv (vI id)])) : ∀ (n i : Nat), s.length - i = n → i ≤ s.length →
    cl AP g104L0 ⟨[(0, .pv (.lst (s.map As.pv))), (1, .fn 105 [.sptr 0 0]), (7, .pv (vI s.length)), (8, .pv (vI i))], [], sh, []⟩ = R104 (.fn 105 [.sptr 0 0]) s sh i (idxA (s.drop i) id)
  | 0, i, hn, hi => by
    have : i = s.length := by omega
    subst this
    rw [g104L0_eq]
    simp [g104B0, idxA, R104, hq.norm]
  | n + 1, i, hn, hi => by
    have hi : i < s.length := by omega
    obtain ⟨x, hx⟩ := getO hi
    unfold Sm at hS
    have ih := L104 hS hq h0 n (i + 1) (by omega) (by omega)
    simp at ih
    have hc := c105 hq h0 x
    simp at hc
    rw [g104L0_eq, dropC hx]
    by_cases e : x.id = id
    · simp [e] at hc
      simp (disch := omega) [-getElem?_pos, g104B0, hx, hi, e, idxA, R104, hq.norm, hq.shift, hc]
    · have e' : (x.id == id) = false := by simpa using e
      rw [e'] at hc
      simp (disch := omega) [-getElem?_pos, g104B0, hx, hi, e, idxA, wrap_id, hq.norm, hq.shift, hc, ih]
      cases idxA (s.drop (i + 1)) id with
      | none => rfl
      | some k => simp [R104]; omega
theorem idxA_fnd : ∀ {s : List As} {id : Int}, (idxA s id = none ∧ fnd s id = none) ∨ ∃ (k : Nat) (a : As), idxA s id = some k ∧ s[k]? = some a ∧ fnd s id = some a.ty
  | [], _ => .inl ⟨rfl, rfl⟩
  | a :: r, id => by
    simp only [idxA, fnd]
    by_cases e : a.id = id
    · right; exact ⟨0, a, by simp [e], rfl, by simp [e]⟩
    · rw [if_neg e, if_neg e]
      rcases idxA_fnd (s := r) (id := id) with ⟨h1, h2⟩ | ⟨k, b, h1, h2, h3⟩
      · left; simp [h1, h2]
      · right; exact ⟨k + 1, b, by simp [h1], by simpa using h2, h3⟩
theorem c64 {s : List As} (hS : Sm s) (id : Int) : (orcL AP).p 64 [.lst (s.map As.pv), vI id] = some [((fnd s id).getD ⟨0, [], 0, 0, []⟩).pv, .bool (hasA s id)] := by
  have hq : Quiet [some [.pv (vI id)]] := by intro cs hc v hv; simp at hc; subst hc; simp at hv; exact ⟨_, hv⟩
  have h := L104 hS hq (id := id) rfl _ 0 rfl (by omega)
  simp at h
  have hc : ∀ r, R104 (.fn 105 [.sptr 0 0]) s [some [.pv (vI id)]] 0 (idxA s id) = r → (orcL AP).i 104 [.pv (.lst (s.map As.pv)), .fn 105 [.sptr 0 0]] [some [.pv (vI id)]] [] = some ([.pv (vI (match idxA s id with | some k => k | none => -1))], [some [.pv (vI id)]], []) := by
    intro r _
    rw [callI_body (af := g104) rfl (by simp [g104])]
    cases hi : idxA s id with
    | none => rw [hi] at h; simp [R104] at h; simp [g104, h]
    | some k => rw [hi] at h; simp [R104] at h; simp [g104, h]
  have hc := hc _ rfl
  rw [callP_body (af := g64) rfl rfl (by decide)]
  unfold Sm at hS
  rcases idxA_fnd (s := s) (id := id) with ⟨h1, h2⟩ | ⟨k, b, h1, h2, h3⟩
  · simp [h1] at hc
    simp [g64, hc, h2, hasA]
  · simp [h1] at hc
    simp [-getElem?_pos, g64, hc, h2, h3, hasA]
end Go.Ab.Lw
