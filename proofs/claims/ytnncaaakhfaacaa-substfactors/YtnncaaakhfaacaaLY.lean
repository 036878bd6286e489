import Derived.Test.YtnncaaakhfaacaaLC
/-
  Chapter 13: matching a pattern.
  Chapter 13: the reference's matching; factors; the law SubstFactors.
  Chapter 13: factors; the law SubstFactors.
  Chapter 13: the reference's factors; the law SubstFactors.
  Chapter 13: the law SubstFactors.
-/
set_option linter.unusedVariables false
set_option linter.unusedSimpArgs false
namespace Go.Ab.Lw
open Ev
set_option maxRecDepth 10000
set_option linter.unusedSimpArgs false

/-- Variables are bare ones, of small numbers. -/
inductive Ty.Vb : Ty → Prop
  | mk {t : Ty} : (t.kind = 1 → t = tyVar t.id ∧ 0 ≤ t.id ∧ t.id < 5) → (∀ x ∈ t.args, Ty.Vb x) → Ty.Vb t
theorem Ty.Vb.var {t : Ty} (h : t.Vb) : t.kind = 1 → t = tyVar t.id ∧ 0 ≤ t.id ∧ t.id < 5 := by cases h; assumption
theorem Ty.Vb.kid {t : Ty} (h : t.Vb) : ∀ x ∈ t.args, x.Vb := by cases h; assumption

def hdE (p t : Ty) : Bool := decide (p.kind = t.kind) && (decide (p.name = t.name) && (decide (p.id = t.id) && decide (p.home = t.home)))
mutual
noncomputable def mtc (s : List As) : Ty → Ty → List As × Bool
  | ⟨k, n, i, h, as⟩, t => if k = 1 then (match fnd s i with | some x => (s, decide (x = t)) | none => (s ++ [⟨i, t⟩], true))
    else if as.length = t.args.length then (if hdE ⟨k, n, i, h, []⟩ t = true then mtcs s as t.args else (s, false)) else (s, false)
noncomputable def mtcs (s : List As) : List Ty → List Ty → List As × Bool
  | [], _ => (s, true)
  | _ :: _, [] => (s, true)
  | a :: as, b :: bs => if (mtc s a b).2 = true then mtcs (mtc s a b).1 as bs else ((mtc s a b).1, false)
end
theorem mtc_eq (s : List As) (p t : Ty) : mtc s p t = if p.kind = 1 then (match fnd s p.id with | some x => (s, decide (x = t)) | none => (s ++ [⟨p.id, t⟩], true))
    else if p.args.length = t.args.length then (if hdE p t = true then mtcs s p.args t.args else (s, false)) else (s, false) := by
  cases p; simp only [mtc]; rfl
theorem mtcs_nil (s : List As) (b : List Ty) : mtcs s [] b = (s, true) := by simp [mtcs]
theorem mtcs_cons (s : List As) (a b : Ty) (as bs : List Ty) : mtcs s (a :: as) (b :: bs) = if (mtc s a b).2 = true then mtcs (mtc s a b).1 as bs else ((mtc s a b).1, false) := by simp only [mtcs]

def cnt (s : List As) : Nat := (hasA s 0).toNat + (hasA s 1).toNat + (hasA s 2).toNat + (hasA s 3).toNat + (hasA s 4).toNat
/-- Substitutions that matching builds. -/
def Good (s : List As) : Prop := s.length ≤ cnt s ∧ ∀ a ∈ s, a.ty.Ok
theorem cnt_le (s : List As) : cnt s ≤ 5 := by
  unfold cnt
  have h : ∀ b : Bool, b.toNat ≤ 1 := by decide
  have := h (hasA s 0); have := h (hasA s 1); have := h (hasA s 2); have := h (hasA s 3); have := h (hasA s 4)
  omega
theorem Good.le {s : List As} (h : Good s) : s.length ≤ 5 := Nat.le_trans h.1 (cnt_le s)
theorem hasA_app {s r : List As} {k : Int} : hasA (s ++ r) k = (hasA s k || hasA r k) := by
  unfold hasA; rw [fnd_app]; cases fnd s k <;> simp
theorem Good.add {s : List As} (h : Good s) {i : Int} (hf : fnd s i = none) (h0 : 0 ≤ i) (h5 : i < 5) {t : Ty} (ht : t.Ok) : Good (s ++ [⟨i, t⟩]) := by
  refine ⟨?_, ?_⟩
  · have h1 := h.1
    have hh : hasA s i = false := by unfold hasA; rw [hf]; rfl
    unfold cnt at h1 ⊢
    simp only [hasA_app, hasA_cons, hasA_nil, Bool.or_false, List.length_append, List.length_cons, List.length_nil]
    have c : i = 0 ∨ i = 1 ∨ i = 2 ∨ i = 3 ∨ i = 4 := by omega
    rcases c with rfl | rfl | rfl | rfl | rfl <;> simp [hh] at h1 ⊢ <;> omega
  · intro a ha
    simp at ha
    rcases ha with ha | rfl
    · exact h.2 a ha
    · exact ht
theorem mtcs_good {as : List Ty} (h : ∀ x ∈ as, ∀ (t : Ty) (s : List As), Good s → t.Ok → Good (mtc s x t).1) : ∀ (bs : List Ty) (s : List As), Good s → (∀ y ∈ bs, y.Ok) → Good (mtcs s as bs).1 := by
  induction as with
  | nil => intro bs s hs _; rw [mtcs_nil]; exact hs
  | cons a r ih =>
    intro bs s hs hb
    cases bs with
    | nil => simpa [mtcs] using hs
    | cons b q =>
      rw [mtcs_cons]
      have g := h a (by simp) b s hs (hb b (by simp))
      split
      · exact ih (fun x hx => h x (by simp [hx])) q _ g (fun y hy => hb y (by simp [hy]))
      · exact g
theorem mtc_good {p : Ty} (hp : p.Vb) : ∀ (t : Ty) (s : List As), Good s → t.Ok → Good (mtc s p t).1 := by
  revert hp
  refine Ty.rec1 (p := fun p => p.Vb → ∀ (t : Ty) (s : List As), Good s → t.Ok → Good (mtc s p t).1) ?_ p
  intro p ih hp t s hs ht
  rw [mtc_eq]
  split
  · rename_i hk
    cases hf : fnd s p.id with
    | some x => exact hs
    | none => exact hs.add hf (hp.var hk).2.1 (hp.var hk).2.2 ht
  · split
    · split
      · exact mtcs_good (fun x hx => ih x hx (hp.kid x hx)) _ _ hs ht.kid
      · exact hs
    · exact hs
theorem Ty.Vb.wf {t : Ty} (h : t.Vb) : t.Wf := by
  revert h
  refine Ty.rec1 (p := fun t => t.Vb → t.Wf) ?_ t
  intro t ih h
  exact ⟨fun hk => by rw [(h.var hk).1]; rfl, fun x hx => ih x hx (h.kid x hx)⟩

/-! ### The program's matching -/
def M102 (p t : Ty) (s : List As) : Prop := (orcL AP).i 102 [.own (s.map As.pv) 0, .pv p.pv, .pv t.pv] [] [s.length] = some ([.own ((mtc s p t).1.map As.pv) 0, .pv (.bool (mtc s p t).2)], [], [(mtc s p t).1.length])
theorem L102 {as bs : List Ty} (hl : as.length = bs.length) (hA : Sm as) (hV : ∀ x ∈ as, x.Vb) (hB : ∀ y ∈ bs, y.Ok) (h : ∀ x ∈ as, ∀ y ∈ bs, ∀ s, Good s → M102 x y s) : ∀ (n i : Nat), as.length - i = n → i ≤ as.length → ∀ s : List As, Good s →
    ∃ k : Int, cl AP g102L0 ⟨[(0, .own (s.map As.pv) 0), (10, .pv (.lst (as.map Ty.pv))), (11, .pv (.lst (bs.map Ty.pv))), (12, .pv (.bool true)), (13, .pv (vI i))], [], [], [s.length]⟩ =
      some (.exit 0, ⟨[(0, .own ((mtcs s (as.drop i) (bs.drop i)).1.map As.pv) 0), (10, .pv (.lst (as.map Ty.pv))), (11, .pv (.lst (bs.map Ty.pv))), (12, .pv (.bool (mtcs s (as.drop i) (bs.drop i)).2)), (13, .pv (vI k)), (59, .pv (.bool false))], [], [], [(mtcs s (as.drop i) (bs.drop i)).1.length]⟩)
  | 0, i, hn, hi, s, hs => by
    have : i = as.length := by omega
    subst this
    refine ⟨as.length, ?_⟩
    rw [g102L0_eq]
    simp [g102B0, mtcs_nil]
  | n + 1, i, hn, hi, s, hs => by
    have hi : i < as.length := by omega
    obtain ⟨x, hx⟩ := getO hi
    obtain ⟨y, hy⟩ := getO (l := bs) (i := i) (by omega)
    unfold Sm at hA
    have hc := h x (memO hx) y (memO hy) s hs
    have hg := mtc_good (hV x (memO hx)) y s hs (hB y (memO hy))
    unfold M102 at hc
    rw [dropC hx, dropC hy, mtcs_cons]
    cases e : (mtc s x y).2
    · rw [e] at hc
      simp at hc
      refine ⟨i + 1, ?_⟩
      rw [g102L0_eq]
      simp (disch := omega) [-getElem?_pos, g102B0, hx, hy, hi, hc, wrap_id]
      rw [g102L0_eq]
      simp (disch := omega) [-getElem?_pos, g102B0]
    · obtain ⟨k, ih⟩ := L102 hl hA hV hB h n (i + 1) (by omega) (by omega) (mtc s x y).1 hg
      refine ⟨k, ?_⟩
      rw [e] at hc
      rw [g102L0_eq] at ih ⊢
      simp at ih hc
      simp (disch := omega) [-getElem?_pos, g102B0, hx, hy, hi, hc, wrap_id]
      rw [g102L0_eq]
      simp [ih]
theorem c102 {p : Ty} (hp : p.Vb) (hO : p.Ok) : ∀ (t : Ty) (s : List As), Good s → t.Ok → M102 p t s := by
  revert hp hO
  refine Ty.rec1 (p := fun p => p.Vb → p.Ok → ∀ (t : Ty) (s : List As), Good s → t.Ok → M102 p t s) ?_ p
  intro p ih hp hO t s hs ht
  unfold M102
  rw [callI_body (af := g102) rfl (by simp [g102])]
  have hsl := hs.le
  rw [mtc_eq]
  by_cases hk : p.kind = 1
  · have h64 := c64 (s := s) (by unfold Sm; omega) p.id
    have hb : (s.length + 1) * 72 ≤ 140737488355328 := by omega
    have hb' : s.length * 72 ≤ 140737488355328 := by omega
    cases hf : fnd s p.id with
    | some x =>
      have xo : x.Ok := by obtain ⟨a, ha, rfl⟩ := fnd_mem hf; exact hs.2 a ha
      have h33 := c33e (a := x) (b := t) xo
      simp [hf, hasA] at h64 h33
      simp [g102, hk, h64, h33, hb']
    | none =>
      simp [hf, hasA] at h64
      simp [g102, hk, h64, hb]
  · by_cases hl : p.args.length = t.args.length
    · have h33 := c33e (a := ⟨p.kind, p.name, p.id, p.home, []⟩) (b := ⟨t.kind, t.name, t.id, t.home, []⟩) ⟨by simp [Sm], by simp⟩
      simp at h33
      cases hh : hdE p t
      · have hh' := hh
        unfold hdE at hh'
        rw [hh'] at h33
        simp [g102, hk, hl, h33, g102L0_eq, g102B0, hh]
      · have hh' := hh
        unfold hdE at hh'
        rw [hh'] at h33
        obtain ⟨k, h⟩ := L102 hl hO.sm hp.kid ht.kid (fun x hx y hy s hs => ih x hx (hp.kid x hx) (hO.kid x hx) y s hs (ht.kid y hy)) _ 0 rfl (by omega) s hs
        rw [g102L0_eq] at h
        simp at h
        simp [g102, hk, hl, h33, g102L0_eq, h, hh]
    · have hl' : ¬ ((p.args.length : Int) = t.args.length) := by omega
      simp [g102, hk, hl, hl']
end Go.Ab.Lw

namespace Go.Ab.Lw
open Ev
set_option maxRecDepth 10000
set_option linter.unusedSimpArgs false

/-! ### The reference's matching -/
noncomputable def mtcR (r : List As × Bool) : List As := if r.2 = true then r.1 else []
def M103 (p t : Ty) (s : List As) : Prop := (orcL AP).p 103 [p.pv, t.pv, .lst (s.map As.pv)] = some [.lst ((mtcR (mtc s p t)).map As.pv), .bool (mtc s p t).2]
theorem L103 {p t : Ty} (hl : p.args.length = t.args.length) (hA : Sm p.args) (hV : ∀ x ∈ p.args, x.Vb) (hB : ∀ y ∈ t.args, y.Ok) (h : ∀ x ∈ p.args, ∀ y ∈ t.args, ∀ s, Good s → M103 x y s) : ∀ (n i : Nat), p.args.length - i = n → i ≤ p.args.length → ∀ s : List As, Good s →
    ∃ k : Int, cl AP g103L0 ⟨[(2, .pv (.lst (s.map As.pv))), (3, .lptr 3 0), (4, .lptr 4 0), (8, .pv (.bool true)), (9, .pv (vI i))], [(3, p.cl), (4, t.cl)], [], []⟩ =
      some (.exit 0, ⟨[(2, .pv (.lst ((mtcR (mtcs s (p.args.drop i) (t.args.drop i))).map As.pv))), (3, .lptr 3 0), (4, .lptr 4 0), (8, .pv (.bool (mtcs s (p.args.drop i) (t.args.drop i)).2)), (9, .pv (vI k)), (74, .pv (.bool false))], [(3, p.cl), (4, t.cl)], [], []⟩)
  | 0, i, hn, hi, s, hs => by
    have : i = p.args.length := by omega
    subst this
    refine ⟨p.args.length, ?_⟩
    rw [g103L0_eq]
    simp [g103B0, mtcs_nil, mtcR, Ty.cl]
  | n + 1, i, hn, hi, s, hs => by
    have hi : i < p.args.length := by omega
    obtain ⟨x, hx⟩ := getO hi
    obtain ⟨y, hy⟩ := getO (l := t.args) (i := i) (by omega)
    unfold Sm at hA
    have hc := h x (memO hx) y (memO hy) s hs
    have hg := mtc_good (hV x (memO hx)) y s hs (hB y (memO hy))
    unfold M103 at hc
    rw [dropC hx, dropC hy, mtcs_cons]
    cases e : (mtc s x y).2
    · simp [e, mtcR] at hc
      refine ⟨i + 1, ?_⟩
      rw [g103L0_eq]
      simp (disch := omega) [-getElem?_pos, g103B0, hx, hy, hi, hc, wrap_id, mtcR, Ty.cl]
      rw [g103L0_eq]
      simp (disch := omega) [-getElem?_pos, g103B0]
    · obtain ⟨k, ih⟩ := L103 hl hA hV hB h n (i + 1) (by omega) (by omega) (mtc s x y).1 hg
      refine ⟨k, ?_⟩
      simp [e, mtcR] at hc
      rw [g103L0_eq] at ih ⊢
      simp [Ty.cl] at ih hc
      simp (disch := omega) [-getElem?_pos, g103B0, hx, hy, hi, hc, wrap_id, Ty.cl]
      rw [g103L0_eq]
      simp [ih]
theorem c103 {p : Ty} (hp : p.Vb) (hO : p.Ok) : ∀ (t : Ty) (s : List As), Good s → t.Ok → M103 p t s := by
  revert hp hO
  refine Ty.rec1 (p := fun p => p.Vb → p.Ok → ∀ (t : Ty) (s : List As), Good s → t.Ok → M103 p t s) ?_ p
  intro p ih hp hO t s hs ht
  unfold M103
  rw [callP_body (af := g103) rfl rfl (by decide)]
  have hsl := hs.le
  have hsS : Sm s := by unfold Sm; omega
  rw [mtc_eq]
  by_cases hk : p.kind = 1
  · have h65 := c65 hsS p.id
    have h22 := c22 hsS hO
    have hb : (s.length + 1) * 72 ≤ 140737488355328 := by omega
    have hb' : s.length * 72 ≤ 140737488355328 := by omega
    rw [Ty.sub_eq, if_pos hk] at h22
    cases hf : fnd s p.id with
    | some x =>
      have xo : x.Ok := by obtain ⟨a, ha, rfl⟩ := fnd_mem hf; exact hs.2 a ha
      have h20 := c20 (a := x) (b := t) xo
      simp [hf, hasA, hk] at h65 h20 h22
      by_cases e : x = t
      · subst e
        simp at h20
        simp [g103, hk, h65, h20, h22, hb', mtcR]
      · simp [e] at h20
        simp [g103, hk, h65, h20, h22, hb', mtcR, e]
    | none =>
      simp [hf, hasA] at h65
      cases s with
      | nil => simp at h65; simp [g103, hk, h65, mtcR]
      | cons a r => simp at h65 hb hb'; simp [g103, hk, h65, hb, hb', mtcR]
  · by_cases hl : p.args.length = t.args.length
    · have hl' : (p.args.length : Int) = t.args.length := by omega
      by_cases a1 : p.kind = t.kind
      · by_cases a2 : p.name = t.name
        · by_cases a3 : p.id = t.id
          · by_cases a4 : p.home = t.home
            · obtain ⟨k, h⟩ := L103 hl hO.sm hp.kid ht.kid (fun x hx y hy s hs => ih x hx (hp.kid x hx) (hO.kid x hx) y s hs (ht.kid y hy)) _ 0 rfl (by omega) s hs
              have hh : hdE p t = true := by simp [hdE, a1, a2, a3, a4]
              rw [g103L0_eq] at h
              simp [Ty.cl, a1, a2, a3, a4] at h
              rw [a1] at hk
              cases e : (mtcs s p.args t.args).2
              · simp [e, mtcR] at h
                simp [g103, hk, hl, a1, a2, a3, a4, g103L0_eq, h, hh, e, mtcR]
              · simp [e, mtcR] at h
                simp [g103, hk, hl, a1, a2, a3, a4, g103L0_eq, h, hh, e, mtcR]
            · have hh : hdE p t = false := by simp [hdE, a4]
              rw [a1] at hk
              simp [g103, hk, hl, a1, a2, a3, a4, hh, mtcR]
          · have hh : hdE p t = false := by simp [hdE, a3]
            rw [a1] at hk
            simp [g103, hk, hl, a1, a2, a3, hh, mtcR]
        · have hh : hdE p t = false := by simp [hdE, a2]
          rw [a1] at hk
          simp [g103, hk, hl, a1, a2, hh, mtcR]
      · have hh : hdE p t = false := by simp [hdE, a1]
        simp [g103, hk, hl, a1, hh, mtcR]
    · have hl' : ¬ ((p.args.length : Int) = t.args.length) := by omega
      by_cases a1 : p.kind = t.kind
      · rw [a1] at hk
        by_cases a2 : p.name = t.name
        · by_cases a3 : p.id = t.id
          · by_cases a4 : p.home = t.home
            · simp [g103, hk, hl, hl', a1, a2, a3, a4, mtcR]
            · simp [g103, hk, hl, hl', a1, a2, a3, a4, mtcR]
          · simp [g103, hk, hl, hl', a1, a2, a3, mtcR]
        · simp [g103, hk, hl, hl', a1, a2, mtcR]
      · simp [g103, hk, hl, hl', a1, mtcR]
end Go.Ab.Lw

namespace Go.Ab.Lw
open Ev
set_option maxRecDepth 10000
set_option linter.unusedSimpArgs false

noncomputable def fac (a b : List As) : List As → List Int → Option (List As)
  | s, [] => some s
  | s, id :: r => if (mtc s ((tyVar id).sub a) ((tyVar id).sub b)).2 = true then fac a b (mtc s ((tyVar id).sub a) ((tyVar id).sub b)).1 r else none

def Pat (a b : List As) (ids : List Int) : Prop := ∀ id ∈ ids, ((tyVar id).sub a).Vb ∧ ((tyVar id).sub a).Ok ∧ ((tyVar id).sub b).Ok

noncomputable def R60 (ts : Toks) (a b : List As) (ids : List Int) : Option (List As) → Option (AExit × St)
  | none => some (.ret, ⟨[(6, .clp []), (7, .pv (.bool false))], [], [], ts⟩)
  | some r => some (.exit 0, ⟨[(0, .pv (.lst (a.map As.pv))), (1, .pv (.lst (b.map As.pv))), (8, .own (r.map As.pv) 0), (12, .pv (.lst (ids.map vI))), (13, .pv (vI ids.length)), (14, .pv (vI ids.length)), (15, .pv (.bool false))], [], [], [r.length]⟩)
theorem L60 {a b : List As} (ha : Sm a) (hb : Sm b) {ids : List Int} (hi : Sm ids) (hp : Pat a b ids) : ∀ (n i : Nat), ids.length - i = n → i ≤ ids.length → ∀ s : List As, Good s →
    ∃ ts, cl AP g60L0 ⟨[(0, .pv (.lst (a.map As.pv))), (1, .pv (.lst (b.map As.pv))), (8, .own (s.map As.pv) 0), (12, .pv (.lst (ids.map vI))), (13, .pv (vI ids.length)), (14, .pv (vI i))], [], [], [s.length]⟩ = R60 ts a b ids (fac a b s (ids.drop i))
  | 0, i, hn, hi', s, hs => by
    have : i = ids.length := by omega
    subst this
    refine ⟨[], ?_⟩
    rw [g60L0_eq]
    simp [g60B0, R60, fac]
  | n + 1, i, hn, hi', s, hs => by
    have hi' : i < ids.length := by omega
    obtain ⟨x, hx⟩ := getO hi'
    have h87 := c87 (n := x)
    have k1 := c21 ha (tyVar_ok (n := x)) tyVar_wf
    have k2 := c21 hb (tyVar_ok (n := x)) tyVar_wf
    obtain ⟨p1, p2, p3⟩ := hp x (memO hx)
    have hc := c102 p1 p2 ((tyVar x).sub b) s hs p3
    have hg := mtc_good p1 ((tyVar x).sub b) s hs p3
    unfold Sm at hi
    unfold M102 at hc
    rw [dropC hx, fac]
    generalize (tyVar x).sub a = X at *
    generalize (tyVar x).sub b = Y at *
    cases e : (mtc s X Y).2
    · simp [e, tyVar] at hc h87 k1 k2
      refine ⟨[s.length + 1, (mtc s X Y).1.length], ?_⟩
      rw [g60L0_eq]
      simp (disch := omega) [-getElem?_pos, g60B0, hx, hi', h87, k1, k2, hc, R60]
    · obtain ⟨ts, ih⟩ := L60 ha hb hi hp n (i + 1) (by omega) (by omega) _ hg
      refine ⟨ts, ?_⟩
      simp [e, tyVar] at hc h87 k1 k2
      rw [g60L0_eq] at ih ⊢
      simp at ih
      simp (disch := omega) [-getElem?_pos, g60B0, hx, hi', h87, k1, k2, hc, wrap_id]
      rw [g60L0_eq]
      simp [ih]
theorem fac_good {a b : List As} : ∀ {ids : List Int} {s r : List As}, Pat a b ids → Good s → fac a b s ids = some r → Good r
  | [], s, r, _, hs, h => by simp [fac] at h; subst h; exact hs
  | id :: q, s, r, hp, hs, h => by
    rw [fac] at h
    split at h
    · obtain ⟨p1, p2, p3⟩ := hp id (by simp)
      exact fac_good (fun x hx => hp x (by simp [hx])) (mtc_good p1 _ s hs p3) h
    · cases h
theorem good_nil : Good [] := ⟨by simp, by simp⟩
theorem c60 {a b : List As} (ha : Sm a) (hb : Sm b) {ids : List Int} (hi : Sm ids) (hp : Pat a b ids) :
    (orcL AP).p 60 [.lst (a.map As.pv), .lst (b.map As.pv), .lst (ids.map vI)] = some [.lst (((fac a b [] ids).getD []).map As.pv), .bool (fac a b [] ids).isSome] := by
  obtain ⟨ts, h⟩ := L60 ha hb hi hp _ 0 rfl (by omega) [] good_nil
  rw [g60L0_eq] at h
  simp at h
  rw [callP_body (af := g60) rfl rfl (by decide)]
  cases e : fac a b [] ids with
  | none => rw [e] at h; simp [R60] at h; simp [g60, g60L0_eq, h]
  | some r =>
    have hg := (fac_good hp good_nil e).le
    have hm : r.length * 72 ≤ 140737488355328 := by omega
    rw [e] at h; simp [R60] at h; simp [g60, g60L0_eq, h, hm]
end Go.Ab.Lw

namespace Go.Ab.Lw
open Ev
set_option maxRecDepth 10000
set_option linter.unusedSimpArgs false

noncomputable def facB (a b s : List As) (ids : List Int) : Bool := (fac a b s ids).isSome
theorem L61 {a b : List As} (ha : Sm a) (hb : Sm b) {ids : List Int} (hi : Sm ids) (hp : Pat a b ids) : ∀ (n i : Nat), ids.length - i = n → i ≤ ids.length → ∀ s : List As, Good s →
    ∃ k : Int, cl AP g61L0 ⟨[(0, .pv (.lst (a.map As.pv))), (1, .pv (.lst (b.map As.pv))), (2, .pv (.lst (ids.map vI))), (8, .pv (.lst (s.map As.pv))), (9, .pv (.bool true)), (10, .pv (vI i))], [], [], []⟩ =
      some (.exit 0, ⟨[(0, .pv (.lst (a.map As.pv))), (1, .pv (.lst (b.map As.pv))), (2, .pv (.lst (ids.map vI))), (8, .pv (.lst (((fac a b s (ids.drop i)).getD []).map As.pv))), (9, .pv (.bool (fac a b s (ids.drop i)).isSome)), (10, .pv (vI k)), (17, .pv (.bool false))], [], [], []⟩)
  | 0, i, hn, hi', s, hs => by
    have : i = ids.length := by omega
    subst this
    refine ⟨ids.length, ?_⟩
    rw [g61L0_eq]
    simp [g61B0, fac]
  | n + 1, i, hn, hi', s, hs => by
    have hi' : i < ids.length := by omega
    obtain ⟨x, hx⟩ := getO hi'
    have h63 := c63 (n := x)
    have k1 := c22 ha (tyVar_ok (n := x))
    have k2 := c22 hb (tyVar_ok (n := x))
    obtain ⟨p1, p2, p3⟩ := hp x (memO hx)
    have hc := c103 p1 p2 ((tyVar x).sub b) s hs p3
    have hg := mtc_good p1 ((tyVar x).sub b) s hs p3
    unfold Sm at hi
    unfold M103 at hc
    rw [dropC hx, fac]
    generalize (tyVar x).sub a = X at *
    generalize (tyVar x).sub b = Y at *
    cases e : (mtc s X Y).2
    · simp [e, tyVar, mtcR] at hc h63 k1 k2
      refine ⟨i + 1, ?_⟩
      rw [g61L0_eq]
      simp (disch := omega) [-getElem?_pos, g61B0, hx, hi', h63, k1, k2, hc, wrap_id]
      rw [g61L0_eq]
      simp (disch := omega) [-getElem?_pos, g61B0]
    · obtain ⟨k, ih⟩ := L61 ha hb hi hp n (i + 1) (by omega) (by omega) _ hg
      refine ⟨k, ?_⟩
      simp [e, tyVar, mtcR] at hc h63 k1 k2
      rw [g61L0_eq] at ih ⊢
      simp at ih
      simp (disch := omega) [-getElem?_pos, g61B0, hx, hi', h63, k1, k2, hc, wrap_id]
      rw [g61L0_eq]
      simp [ih]
theorem c61 {a b : List As} (ha : Sm a) (hb : Sm b) {x : Int} {q : List Int} (hi : Sm (x :: q)) (hp : Pat a b (x :: q)) :
    (orcL AP).p 61 [.lst (a.map As.pv), .lst (b.map As.pv), .lst ((x :: q).map vI)] = some [.lst (((fac a b [] (x :: q)).getD []).map As.pv), .bool (fac a b [] (x :: q)).isSome] := by
  have h63 := c63 (n := x)
  have k1 := c22 ha (tyVar_ok (n := x))
  have k2 := c22 hb (tyVar_ok (n := x))
  obtain ⟨p1, p2, p3⟩ := hp x (by simp)
  have hc := c103 p1 p2 ((tyVar x).sub b) [] good_nil p3
  have hg := mtc_good p1 ((tyVar x).sub b) [] good_nil p3
  have hfg : ∀ r, fac a b [] (x :: q) = some r → r.length ≤ 5 := fun r e => (fac_good hp good_nil e).le
  unfold M103 at hc
  rw [callP_body (af := g61) rfl rfl (by decide)]
  obtain ⟨k, h⟩ : ∃ k : Int, cl AP g61L0 ⟨[(0, .pv (.lst (a.map As.pv))), (1, .pv (.lst (b.map As.pv))), (2, .pv (.lst ((x :: q).map vI))), (8, .clp []), (9, .pv (.bool true)), (10, .pv (vI 0))], [], [], []⟩ =
      some (.exit 0, ⟨[(0, .pv (.lst (a.map As.pv))), (1, .pv (.lst (b.map As.pv))), (2, .pv (.lst ((x :: q).map vI))), (8, .pv (.lst (((fac a b [] (x :: q)).getD []).map As.pv))), (9, .pv (.bool (fac a b [] (x :: q)).isSome)), (10, .pv (vI k)), (17, .pv (.bool false))], [], [], []⟩) := by
    unfold Sm at hi
    rw [fac]
    generalize (tyVar x).sub a = X at *
    generalize (tyVar x).sub b = Y at *
    cases e : (mtc [] X Y).2
    · simp [e, tyVar, mtcR] at hc h63 k1 k2
      refine ⟨1, ?_⟩
      rw [g61L0_eq]
      simp (disch := omega) [-getElem?_pos, g61B0, h63, k1, k2, hc, wrap_id]
      rw [g61L0_eq]
      simp (disch := omega) [-getElem?_pos, g61B0]
    · obtain ⟨k, ih⟩ := L61 ha hb hi hp q.length 1 (by simp) (by simp) _ hg
      refine ⟨k, ?_⟩
      simp [e, tyVar, mtcR] at hc h63 k1 k2
      rw [g61L0_eq] at ih ⊢
      simp at ih
      simp (disch := omega) [-getElem?_pos, g61B0, h63, k1, k2, hc, wrap_id]
      rw [g61L0_eq]
      simp [ih]
  rw [g61L0_eq] at h
  simp at h
  cases e : fac a b [] (x :: q) with
  | none => rw [e] at h; simp at h; simp [g61, g61L0_eq, h]
  | some r =>
    have hm : r.length * 72 ≤ 140737488355328 := by have := hfg r e; omega
    rw [e] at h; simp at h; simp [g61, g61L0_eq, h, hm]

/-! ### What factors do -/
theorem Made.vb {lv : Ty → Prop} (h : ∀ t, lv t → t.Vb) {t : Ty} (m : Made lv t) : t.Vb := by
  induction m with
  | leaf hl => exact h _ hl
  | int => exact ⟨by simp [tyInt], by simp [tyInt]⟩
  | con hd hl _ ih => exact ⟨by simp, ih⟩
  | arrow _ _ ha hb => exact ⟨by simp, by intro x hx; simp at hx; rcases hx with rfl | rfl <;> assumption⟩
theorem tyVar_vb {n : Int} (h0 : 0 ≤ n) (h5 : n < 5) : (tyVar n).Vb := ⟨fun _ => ⟨rfl, h0, h5⟩, by simp [tyVar]⟩
theorem leavesS_vb : ∀ t, t ∈ leavesS → t.Vb := by
  intro t ht
  simp [leavesS] at ht
  rcases ht with rfl | rfl | rfl | rfl | rfl | rfl
  · exact tyVar_vb (by omega) (by omega)
  · exact tyVar_vb (by omega) (by omega)
  · exact tyVar_vb (by omega) (by omega)
  · exact tyVar_vb (by omega) (by omega)
  · exact tyVar_vb (by omega) (by omega)
  · exact ⟨by simp [tyRigid], by simp [tyRigid]⟩

/-- What is assigned agrees with b. -/
def Agr (s b : List As) : Prop := ∀ id x, fnd s id = some x → x = (tyVar id).sub b
/-- All variables are assigned. -/
def Dom (s : List As) (p : Ty) : Prop := ∀ s' b : List As, (∀ id, hasA s id = true → hasA s' id = true) → Agr s' b → p.sub s' = p.sub b
def Ext (s s' : List As) : Prop := ∀ id, hasA s id = true → hasA s' id = true
theorem Ext.refl (s : List As) : Ext s s := fun _ h => h
theorem Ext.trans {a b c : List As} (h : Ext a b) (k : Ext b c) : Ext a c := fun i x => k i (h i x)
theorem Ext.app {a b : List As} : Ext a (a ++ b) := fun i x => by rw [hasA_app, x]; rfl
theorem Dom.ext {s s' : List As} {p : Ty} (h : Dom s p) (e : Ext s s') : Dom s' p := fun t b he ha => h t b (e.trans he) ha

theorem mtc_agr {b : List As} {p : Ty} (hp : p.Vb) : ∀ s : List As, Agr s b → (mtc s p (p.sub b)).2 = true ∧ Agr (mtc s p (p.sub b)).1 b ∧ Ext s (mtc s p (p.sub b)).1 ∧ Dom (mtc s p (p.sub b)).1 p := by
  revert hp
  refine Ty.rec1 (p := fun p => p.Vb → ∀ s : List As, Agr s b → (mtc s p (p.sub b)).2 = true ∧ Agr (mtc s p (p.sub b)).1 b ∧ Ext s (mtc s p (p.sub b)).1 ∧ Dom (mtc s p (p.sub b)).1 p) ?_ p
  intro p ih hp s ha
  by_cases hk : p.kind = 1
  · have hv := (hp.var hk).1
    have dom : ∀ s : List As, hasA s p.id = true → Dom s p := by
      intro s h s' b' he ha'
      have h' := he _ h
      unfold hasA at h'
      cases e : fnd s' p.id with
      | none => rw [e] at h'; simp at h'
      | some x =>
        have := ha' _ _ e
        rw [Ty.sub_eq s', if_pos hk, e, Option.getD_some, this]
        conv => rhs; rw [hv]
    rw [mtc_eq, if_pos hk]
    cases e : fnd s p.id with
    | some x =>
      have := ha _ _ e
      rw [← hv] at this
      refine ⟨by simp [this], ha, Ext.refl _, dom s (by unfold hasA; rw [e]; rfl)⟩
    | none =>
      refine ⟨rfl, ?_, Ext.app, dom _ (by rw [hasA_app, hasA_cons]; simp)⟩
      intro id x h
      rw [fnd_app] at h
      cases e2 : fnd s id with
      | some y => rw [e2] at h; simp at h; subst h; exact ha _ _ e2
      | none =>
        rw [e2] at h
        simp [fnd] at h
        obtain ⟨h1, h2⟩ := h
        rw [← h1, ← hv, h2]
  · have hs : p.sub b = ⟨p.kind, p.name, p.id, p.home, p.args.map (Ty.sub b)⟩ := by rw [Ty.sub_eq, if_neg hk]
    have key : ∀ (as : List Ty), (∀ x ∈ as, x ∈ p.args) → ∀ s : List As, Agr s b → (mtcs s as (as.map (Ty.sub b))).2 = true ∧ Agr (mtcs s as (as.map (Ty.sub b))).1 b ∧ Ext s (mtcs s as (as.map (Ty.sub b))).1 ∧ ∀ x ∈ as, Dom (mtcs s as (as.map (Ty.sub b))).1 x := by
      intro as
      induction as with
      | nil => intro _ s ha; rw [mtcs_nil]; exact ⟨rfl, ha, Ext.refl _, by simp⟩
      | cons x r ihr =>
        intro hm s ha
        obtain ⟨h1, h2, h3, h4⟩ := ih x (hm x (by simp)) (hp.kid x (hm x (by simp))) s ha
        obtain ⟨k1, k2, k3, k4⟩ := ihr (fun y hy => hm y (by simp [hy])) _ h2
        rw [List.map_cons, mtcs_cons, if_pos h1]
        refine ⟨k1, k2, h3.trans k3, ?_⟩
        intro y hy
        simp at hy
        rcases hy with rfl | hy
        · exact h4.ext k3
        · exact k4 y hy
    obtain ⟨h1, h2, h3, h4⟩ := key p.args (fun _ h => h) s ha
    rw [mtc_eq, if_neg hk, if_pos (by rw [hs]; simp), if_pos (by rw [hs]; simp [hdE])]
    have ha' : (p.sub b).args = p.args.map (Ty.sub b) := by rw [hs]
    rw [ha']
    refine ⟨h1, h2, h3, ?_⟩
    intro s' b' he hb'
    rw [Ty.sub_eq s', if_neg hk, Ty.sub_eq b', if_neg hk]
    congr 1
    exact List.map_congr_left fun x hx => h4 x hx s' b' he hb'
theorem fac_agr {a b : List As} : ∀ {ids : List Int} {s : List As}, (∀ id ∈ ids, ((tyVar id).sub a).Vb) → Agr s b → ∃ r, fac a (comp a b) s ids = some r ∧ Agr r b ∧ Ext s r ∧ ∀ id ∈ ids, Dom r ((tyVar id).sub a)
  | [], s, _, hs => ⟨s, rfl, hs, Ext.refl _, by simp⟩
  | id :: q, s, hp, hs => by
    obtain ⟨h1, h2, h3, h4⟩ := mtc_agr (b := b) (hp id (by simp)) s hs
    obtain ⟨r, k1, k2, k3, k4⟩ := fac_agr (a := a) (b := b) (ids := q) (fun x hx => hp x (by simp [hx])) h2
    refine ⟨r, ?_, k2, h3.trans k3, ?_⟩
    · rw [fac, comp_sub, if_pos h1]; exact k1
    · intro x hx
      simp at hx
      rcases hx with rfl | hx
      · exact h4.ext k3
      · exact k4 x hx
end Go.Ab.Lw

namespace Go.Ab.Lw
open Ev
set_option maxRecDepth 10000
set_option linter.unusedSimpArgs false

/-- **The law SubstFactors.** -/
theorem law13 (bits : Int) (L : List Int) : (orcL AP).p 13 [vI bits, .lst (L.map vI)] = some [.bool true] := by
  have c0 := c14
  have c1 := c15 (l := L)
  rw [callP_body (af := g13) rfl rfl (by decide)]
  by_cases hL : L.length ≤ 60
  · have hLs : Sm L := by unfold Sm; omega
    obtain ⟨a, b, t, j, e, ⟨a1, a2, _⟩, ⟨b1, b2, _⟩, mt, hj⟩ := c16 (L := L) hLs bits
    have ao : ∀ x ∈ a, x.ty.Ok := fun x hx => (a2 x hx).1.ok leavesS_bare
    have bo : ∀ x ∈ b, x.ty.Ok := fun x hx => (b2 x hx).1.ok leavesS_bare
    have aS : Sm a := by unfold Sm; omega
    have bS : Sm b := by unfold Sm; omega
    have abo := comp_ok ao bo
    have abl : (comp a b).length ≤ 8 := by
      have : (comp a b).length ≤ a.length + b.length := by unfold comp; have := List.length_filter_le (fun x => !hasA a x.id) b; simp; omega
      omega
    have abS : Sm (comp a b) := by unfold Sm; omega
    have v : ∀ id ∈ [(0 : Int), 1, 2, 3], ((tyVar id).sub a).Vb := by
      intro id hid
      rw [Ty.sub_eq, if_pos (show (tyVar id).kind = 1 from rfl)]
      cases hf : fnd a (tyVar id).id with
      | some x =>
        obtain ⟨y, hy, rfl⟩ := fnd_mem hf
        exact (a2 y hy).1.vb leavesS_vb
      | none =>
        simp at hid
        exact tyVar_vb (by omega) (by omega)
    have p1 : Pat a b [0, 1, 2, 3] := fun id h => ⟨v id h, sub_ok ao tyVar_ok, sub_ok bo tyVar_ok⟩
    have p2 : Pat a (comp a b) [0, 1, 2, 3] := fun id h => ⟨v id h, sub_ok ao tyVar_ok, sub_ok abo tyVar_ok⟩
    have h1 := c60 aS bS (ids := [0, 1, 2, 3]) (by simp [Sm]) p1
    have h2 := c61 aS bS (x := 0) (q := [1, 2, 3]) (by simp [Sm]) p1
    have h3 := c60 aS abS (ids := [0, 1, 2, 3]) (by simp [Sm]) p2
    obtain ⟨x, ex, x1, x2, x3⟩ := fac_agr (a := a) (b := b) (ids := [0, 1, 2, 3]) (s := []) v (by intro id x h; simp [fnd] at h)
    have xg := fac_good p2 good_nil ex
    have xl := xg.le
    have h4 := c19 (a := a) (b := b) (by omega) ao
    have h5 := c19 (a := a) (b := x) (by omega) ao
    have axl : (comp a x).length ≤ 9 := by
      have : (comp a x).length ≤ a.length + x.length := by unfold comp; have := List.length_filter_le (fun z => !hasA a z.id) x; simp; omega
      omega
    have h6 := c39 (a := comp a x) (b := comp a b) (ids := [0, 1, 2, 3]) (by unfold Sm; omega) abS (comp_ok ao xg.2) (by simp [Sm])
    have he : eqS (comp a x) (comp a b) [0, 1, 2, 3] = true := by
      rw [eqS_iff]
      intro id hid
      rw [comp_sub, comp_sub]
      exact x3 id hid x b (fun _ h => h) x1
    rw [he] at h6
    rw [ex] at h3
    have hr : ∀ r : List As, (fac a b [] [0, 1, 2, 3]).getD [] = r → Good r := by
      intro r h
      cases e : fac a b [] [0, 1, 2, 3] with
      | none => rw [e] at h; simp at h; subst h; exact good_nil
      | some q => rw [e] at h; simp at h; subst h; exact fac_good p1 good_nil e
    obtain ⟨r, er⟩ : ∃ r, r = (fac a b [] [0, 1, 2, 3]).getD [] := ⟨_, rfl⟩
    have rg := hr r er.symm
    have rl := rg.le
    have h7 := c18 (as := r) (bs := r) (by unfold Sm; omega) rg.2
    rw [← er] at h1 h2
    simp at h1 h2 h3 h4 h5 h6 h7 e
    have m1 : a.length * 72 ≤ 140737488355328 := by omega
    have m3 : b.length * 72 ≤ 140737488355328 := by omega
    simp [hL] at c1
    simp [g13, c0, c1, e, h1, h2, h3, h4, h5, h6, h7, m1, m3]
  · simp [hL] at c1
    simp [g13, c0, c1]
end Go.Ab.Lw

