import Derived.Test.YtnncaaakhfaacaaLLM5
/-
  Types and substitutions: what replaces variables.
-/
set_option linter.unusedVariables false
set_option linter.unusedSimpArgs false
namespace Go.Ab.Lw
open Ev
set_option maxRecDepth 10000
set_option linter.unusedSimpArgs false

/-- No list within is long. -/
inductive Ty.Ok : Ty → Prop
  | mk {t : Ty} : Sm t.args → (∀ x ∈ t.args, Ty.Ok x) → Ty.Ok t
theorem Ty.Ok.sm {t : Ty} (h : t.Ok) : Sm t.args := by cases h; assumption
theorem Ty.Ok.kid {t : Ty} (h : t.Ok) : ∀ x ∈ t.args, x.Ok := by cases h; assumption
/-- Variables have no parts. -/
inductive Ty.Wf : Ty → Prop
  | mk {t : Ty} : (t.kind = 1 → t.args = []) → (∀ x ∈ t.args, Ty.Wf x) → Ty.Wf t
theorem Ty.Wf.var {t : Ty} (h : t.Wf) : t.kind = 1 → t.args = [] := by cases h; assumption
theorem Ty.Wf.kid {t : Ty} (h : t.Wf) : ∀ x ∈ t.args, x.Wf := by cases h; assumption

/-- The first assignment of a variable. -/
def fnd : List As → Int → Option Ty
  | [], _ => none
  | a :: r, id => if a.id = id then some a.ty else fnd r id

mutual
def Ty.sub (s : List As) : Ty → Ty
  | ⟨k, n, i, h, as⟩ => if k = 1 then (fnd s i).getD ⟨k, n, i, h, as⟩ else ⟨k, n, i, h, Ty.subs s as⟩
def Ty.subs (s : List As) : List Ty → List Ty
  | [] => []
  | a :: r => a.sub s :: Ty.subs s r
end
theorem Ty.subs_map (s : List As) : ∀ l : List Ty, Ty.subs s l = l.map (Ty.sub s)
  | [] => by simp [Ty.subs]
  | a :: r => by simp [Ty.subs, Ty.subs_map s r]
theorem Ty.sub_eq (s : List As) (t : Ty) : t.sub s = if t.kind = 1 then (fnd s t.id).getD t else ⟨t.kind, t.name, t.id, t.home, t.args.map (Ty.sub s)⟩ := by
  cases t; simp only [Ty.sub, Ty.subs_map]

def R46a (s : List As) (t : Ty) : Option Ty → Option (AExit × St)
  | some a => some (.ret, ⟨[(4, .lptr 4 0)], [(4, [.pv (vI a.kind), .pv (.str a.name), .pv (vI a.id), .pv (vI a.home), .pv (.lst (a.args.map Ty.pv))])], [], [0]⟩)
  | none => some (.exit 0, ⟨[(1, .pv (.lst (s.map As.pv))), (2, .lptr 2 0), (4, .lptr 4 0), (5, .pv (vI s.length)), (14, .pv (.bool false))],
      [(2, [.pv (vI t.kind), .pv (.str t.name), .pv (vI t.id), .pv (vI t.home), .pv (.lst (t.args.map Ty.pv))]), (4, [.pv (vI 0), .pv (.str []), .pv (vI 0), .pv (vI 0), .own [] 0])], [], [0]⟩)
theorem L46a {s : List As} (hS : Sm s) (t : Ty) : ∀ (n i : Nat), s.length - i = n → i ≤ s.length →
    cl AP g46L0 ⟨[(1, .pv (.lst (s.map As.pv))), (2, .lptr 2 0), (4, .lptr 4 0), (5, .pv (vI i))],
      [(2, [.pv (vI t.kind), .pv (.str t.name), .pv (vI t.id), .pv (vI t.home), .pv (.lst (t.args.map Ty.pv))]), (4, [.pv (vI 0), .pv (.str []), .pv (vI 0), .pv (vI 0), .own [] 0])], [], [0]⟩ = R46a s t (fnd (s.drop i) t.id)
  | 0, i, hn, hi => by
    have : i = s.length := by omega
    subst this
    rw [g46L0_eq]
    simp [g46B0, fnd, R46a]
  | n + 1, i, hn, hi => by
    have hi : i < s.length := by omega
    obtain ⟨x, hx⟩ := getO hi
    unfold Sm at hS
    have ih := L46a hS t n (i + 1) (by omega) (by omega)
    simp at ih
    rw [g46L0_eq, dropC hx]
    by_cases e : x.id = t.id
    · simp (disch := omega) [-getElem?_pos, g46B0, hx, hi, e, fnd, R46a]
    · simp (disch := omega) [-getElem?_pos, g46B0, hx, hi, e, fnd, wrap_id, ih]

theorem L46b {s : List As} {t : Ty} (hS : Sm t.args) (h : ∀ x ∈ t.args, (orcL AP).p 46 [x.pv, .lst (s.map As.pv)] = some [(x.sub s).pv]) : ∀ (n i : Nat), t.args.length - i = n → i ≤ t.args.length → ∀ acc : List Ty, acc = (t.args.take i).map (Ty.sub s) →
    cl AP g46L1 ⟨[(1, .pv (.lst (s.map As.pv))), (2, .lptr 2 0), (4, .lptr 4 0), (6, .lptr 6 0), (7, .pv (vI i))],
      [(2, [.pv (vI t.kind), .pv (.str t.name), .pv (vI t.id), .pv (vI t.home), .pv (.lst (t.args.map Ty.pv))]), (4, [.pv (vI 0), .pv (.str []), .pv (vI 0), .pv (vI 0), .own [] 0]),
        (6, [.pv (vI t.kind), .pv (.str t.name), .pv (vI t.id), .pv (vI t.home), .own (acc.map Ty.pv) 1])], [], [0, acc.length]⟩ =
      some (.exit 2, ⟨[(1, .pv (.lst (s.map As.pv))), (2, .lptr 2 0), (4, .lptr 4 0), (6, .lptr 6 0), (7, .pv (vI t.args.length)), (37, .pv (.bool false))],
      [(2, [.pv (vI t.kind), .pv (.str t.name), .pv (vI t.id), .pv (vI t.home), .pv (.lst (t.args.map Ty.pv))]), (4, [.pv (vI 0), .pv (.str []), .pv (vI 0), .pv (vI 0), .own [] 0]),
        (6, [.pv (vI t.kind), .pv (.str t.name), .pv (vI t.id), .pv (vI t.home), .own ((t.args.map (Ty.sub s)).map Ty.pv) 1])], [], [0, t.args.length]⟩)
  | 0, i, hn, hi, acc, ha => by
    have : i = t.args.length := by omega
    subst this
    subst ha
    rw [g46L1_eq]
    simp [g46B1]
  | n + 1, i, hn, hi, acc, ha => by
    have hi : i < t.args.length := by omega
    obtain ⟨x, hx⟩ := getO hi
    unfold Sm at hS
    have hb : (acc.length + 1) * 64 ≤ 140737488355328 := by subst ha; simp; omega
    have hc := h x (memO hx)
    have ih := L46b hS h n (i + 1) (by omega) (by omega) (acc ++ [x.sub s]) (by rw [List.take_add_one, hx, ha]; simp)
    rw [g46L1_eq] at ih ⊢
    simp at ih hc
    simp (disch := omega) [-getElem?_pos, g46B1, hx, hi, hc, hb, wrap_id]
    rw [g46L1_eq]
    simp [ih]

theorem c46 {s : List As} (hS : Sm s) {t : Ty} (hO : t.Ok) : (orcL AP).p 46 [t.pv, .lst (s.map As.pv)] = some [(t.sub s).pv] := by
  revert hO
  refine Ty.rec1 (p := fun t => t.Ok → (orcL AP).p 46 [t.pv, .lst (s.map As.pv)] = some [(t.sub s).pv]) ?_ t
  intro t ih hO
  rw [callP_body (af := g46) rfl rfl (by decide)]
  by_cases hk : t.kind = 1
  · have h := L46a hS t _ 0 rfl (by omega)
    rw [g46L0_eq] at h
    simp at h
    cases hf : fnd s t.id with
    | none =>
      rw [hf] at h
      simp [R46a, hk] at h
      simp [g46, hk, g46L0_eq, h, Ty.sub_eq, hf]
    | some a =>
      rw [hf] at h
      simp [R46a, hk] at h
      simp [g46, hk, g46L0_eq, h, Ty.sub_eq, hf]
  · have h := L46b (s := s) hO.sm (fun x hx => ih x hx (hO.kid x hx)) _ 0 rfl (by omega) [] (by simp)
    rw [g46L1_eq] at h
    simp at h
    simp [g46, hk, g46L1_eq, h, Ty.sub_eq]
end Go.Ab.Lw
